/-
  SetKey of the specification. Conditions: those typed at each theorem.
-/
import Derived.Test.YtebapdgajjimpaaTrSp
import Derived.Test.YtebapdgajjimpaaTrJs
import Derived.Test.YtebapdgajjimpaaHeldT
namespace Go.Proofs.Ytebapdgajjimpaa
open Go.RowKit
section
set_option maxHeartbeats 6400000
set_option maxRecDepth 20000
theorem bld_fold {B T : Nat} {nm : ByteArray} {v : Value} {l : List Ky} {w0 W : World} (hex : ∃ j : Ex w0, W = j.v) (h : Bld B T nm v l W) : ∃ j : Ex w0, W = j.v ∧ Bld B T nm v l j.v := by
  obtain ⟨j, rfl⟩ := hex
  exact ⟨j, rfl, h⟩
theorem sSet_any (nm : ByteArray) (A : Option Addr) (c : Nat) (l : List Ky) (x : Ky) (w : World) [hl : Rd 2 kC w A l] (hs : nm.size ≤ maxLen) (hn : l.length ≤ 1048576) :
    Calls Try.prog 6 #[.agg #[.string nm, .slice A l.length c], .agg #[.int .i64 x.t, .int .i64 x.v]] w (TrPost (stR nm l x) w) := by
  cases hv : vT nm l
  · have HR := hid (stR_inv (x := x) hv)
    have HV := hid hv
    clear hv
    go_enter Try.func6, Try.ntmps6
    go_wp2_with ((go_at_call 23; (refine (one_any nm A c l _ _ hs hn ?_ ?_).mono ?_); (· simp [go_sem]); (· simp [go_sem]); rw [HV.out]; rintro e w' ⟨rfl, k, rfl⟩))
    (refine bodyPost_ret (v := _) (by first | (simp [results, Try.results6, go_sem]; done) | (simp [results, Try.results6, go_sem]; rfl)) rfl ?_; rw [HR.out]; refine trPost_err (by rfl) ?_; (refine Ok.toEx ?_; (repeat (first | (with_reducible exact Ok.rf _) | (with_reducible refine Ok.alloc ?_ _) | (with_reducible refine Ok.ex ?_ _) | (with_reducible refine Ok.drew ?_) | (with_reducible refine Ok.setCellI ?_ _ _ _) | (with_reducible refine Ok.exb ?_ _)))))
  · by_cases hd : okKy x
    rotate_left
    · have HR := hid (stR_rng hv hd)
      have HV := hid hv
      rcases okKy_not hd with h | ⟨h1, h⟩
      all_goals
        clear hd hv
        go_enter Try.func6, Try.ntmps6
        go_wp2_with (first | (go_at_call 23; (refine (one_any nm A c l _ _ hs hn ?_ ?_).mono ?_); (· simp [go_sem]); (· simp [go_sem]); rw [HV.out]; rintro e w' ⟨rfl, k, rfl⟩) | (go_at_call 24; first | (refine (tm_yes _ _ (by omega) (by omega)).mono ?_; rintro e w' ⟨rfl, rfl⟩) | (refine (tm_no _ _ (by omega)).mono ?_; rintro e w' ⟨rfl, rfl⟩)) | (go_at_call 25; first | (refine (vl_yes _ _ (by omega) (by omega)).mono ?_; rintro e w' ⟨rfl, rfl⟩) | (refine (vl_no _ _ (by omega)).mono ?_; rintro e w' ⟨rfl, rfl⟩)))
        (refine bodyPost_ret (v := _) (by first | (simp [results, Try.results6, go_sem]; done) | (simp [results, Try.results6, go_sem]; rfl)) rfl ?_; rw [HR.out]; refine trPost_err (by rfl) ?_; (refine Ok.toEx ?_; (repeat (first | (with_reducible exact Ok.rf _) | (with_reducible refine Ok.alloc ?_ _) | (with_reducible refine Ok.ex ?_ _) | (with_reducible refine Ok.drew ?_) | (with_reducible refine Ok.setCellI ?_ _ _ _) | (with_reducible refine Ok.exb ?_ _)))))
    · have hk := (vT_of hv).2.vk
      obtain ⟨hk1, hk2⟩ := hk.n
      have HA := hid hl.kg
      have HV := hid hv
      have HFull := hid (stR_full hv hd)
      have HGo := hid (stR_go hv hd)
      obtain ⟨⟨hx1, hx2⟩, ⟨hx3, hx4⟩⟩ := hd
      clear hv hk
      go_enter Try.func6, Try.ntmps6
      go_wp2_with (first | (go_at_call 23; (refine (one_any nm A c l _ _ hs hn ?_ ?_).mono ?_); (· simp [go_sem]); (· simp [go_sem]); rw [HV.out]; rintro e w' ⟨rfl, k, rfl⟩) | (go_at_call 24; first | (refine (tm_yes _ _ (by omega) (by omega)).mono ?_; rintro e w' ⟨rfl, rfl⟩) | (refine (tm_no _ _ (by omega)).mono ?_; rintro e w' ⟨rfl, rfl⟩)) | (go_at_call 25; first | (refine (vl_yes _ _ (by omega) (by omega)).mono ?_; rintro e w' ⟨rfl, rfl⟩) | (refine (vl_no _ _ (by omega)).mono ?_; rintro e w' ⟨rfl, rfl⟩)))
      haveI hleT : LeB k.v.heap.size k.v.heap.size := inferInstance
      have HB0 : Hid (Bld k.v.heap.size k.v.heap.size nm (.slice none 0 0) [] (k.v.alloc (.cells #[.string nm, .slice none 0 0] 30))) := hid ⟨inferInstance, LeB.h, by simp [go_sem], by simp [go_sem], by simp [go_sem], by simp [go_sem], ⟨⟨rfl, .inl ⟨rfl, rfl⟩⟩, by intro h; cases h⟩⟩
      obtain ⟨j1, hj1⟩ : ∃ j1 : Ex k.v, k.v.alloc (.cells #[.string nm, .slice none 0 0] 30) = j1.v := by (refine Ok.toEx ?_; (repeat (first | (with_reducible exact Ok.rf _) | (with_reducible refine Ok.alloc ?_ _) | (with_reducible refine Ok.ex ?_ _) | (with_reducible refine Ok.drew ?_) | (with_reducible refine Ok.setCellI ?_ _ _ _) | (with_reducible refine Ok.exb ?_ _))))
      rw [hj1] at HB0
      rw [hj1]
      clear hj1
      have hTk := (inferInstance : LtW (w.heap.size + 1 + 1) k.v).h
      obtain ⟨T, hTe⟩ : ∃ T, k.v.heap.size = T := ⟨_, rfl⟩
      rw [hTe] at HB0 hTk
      rw [hTe]
      haveI hleT : LeB k.v.heap.size T := ⟨by omega⟩
      haveI hleW : LeB w.heap.size T := ⟨by omega⟩
      haveI ltT0 : LtN w.heap.size T := ⟨by omega⟩
      haveI ltT1 : LtN (w.heap.size + 1) T := ⟨by omega⟩
      haveI ltT2 : LtN (w.heap.size + 1 + 1) T := ⟨by omega⟩
      haveI neT0 : NeB w.heap.size T := ⟨by omega⟩
      haveI neT1 : NeB (w.heap.size + 1) T := ⟨by omega⟩
      haveI neT2 : NeB (w.heap.size + 1 + 1) T := ⟨by omega⟩
      clear hTe
      go_loopw [7, 8] (fun dn t wr => ∃ (q : Nat) (o : List Ky) (d : Bool), q ≤ l.length ∧ dn = .bool d ∧ t = .int .i64 q ∧ stP l x q = (o, d) ∧ ∃ v, ∃ j : Ex k.v, wr = j.v ∧ Bld T T nm v o j.v) (fun _ t _ => l.length - (intOf t).toNat)
      case atStart => exact ⟨0, [], false, Nat.zero_le _, rfl, rfl, rfl, _, j1, rfl, HB0.out⟩
      case round =>
        obtain ⟨qq, o, d, hq, rfl, rfl, hst, v, j0, rfl, hBd⟩ := hrel
        have hol : o.length ≤ qq + 1 := by
          have h := stP_len l x qq
          rw [hst] at h
          cases d <;> simp at h <;> omega
        (have x0 := hBd.c0; have x1 := hBd.c1; have x2 := hBd.f0; have x3 := hBd.f1; haveI hlt1 := hBd.lt; haveI hot := hBd.own; haveI hBi := hBd)
        clear hBd
        obtain ⟨A1, d1, rfl, hO1, hF1⟩ := Ow.of_row (f := kC) (fun _ => rfl) hot.own
        by_cases hlt : qq < l.length
        · clear hO1 hF1
          obtain ⟨ba, oa, rfl, hba, hca⟩ := HA.out (by omega)
          obtain ⟨c0, c1⟩ := hca qq hlt
          haveI ltTb : LtN ba T := ⟨by have := hba.h; omega⟩
          haveI neTb : NeB ba T := ⟨by have := hba.h; omega⟩
          clear hca
          have hz4 : (0 : Int) ≤ (qq : Int) := by omega
          have hz5 : (qq : Int) < (l.length : Int) := by omega
          cases d
          · rcases Int.lt_trichotomy (kyG l qq).t x.t with h | h | h
            · have HU := hid (stP_lt hst h)
              clear hst
              generalize kyG l qq = y at *
              have g1 : decide (x.t ≤ y.t) = false := by simp; omega
              have g2 : (y.t != x.t) = true := by rw [bne_iff_ne]; omega
              have g3 : (y.t == x.t) = false := by rw [beq_eq_false_iff_ne]; omega
              go_wp2_with (fail)
              (refine wp_region_ex (by kernel_rfl) (by kernel_rfl) ?_; (repeat (go_big_quiet_step (fail))); refine wpQuiet_nil ?_; rintro _ ⟨k2, rfl⟩)
              go_wp2_with (fail)
              (refine wp_region_ex (by kernel_rfl) (by kernel_rfl) ?_; (repeat (go_big_quiet_step (fail))); refine wpQuiet_nil ?_; rintro _ ⟨k3, rfl⟩)
              go_wp2_with (fail)
              (refine wp_region_T (fun W => W.cell? ⟨T, 1, none⟩ = some (.slice A1 o.length d1) ∧ W.cell? ⟨w.heap.size, 1, none⟩ = some (.slice (some ⟨ba, oa, none⟩) l.length c) ∧ W.cell? ⟨ba, oa + qq * 2, none⟩ = some (.int .i64 y.t) ∧ W.cell? ⟨ba, oa + qq * 2 + 1, none⟩ = some (.int .i64 y.v)) 10 (by kernel_rfl) ?_ (fun hHeld => ?_); (· refine ⟨?_, ?_, ?_, ?_⟩ <;> simp [go_sem, x1, c0, c1]); (refine wpAnyT_takeL (i := 0) (v := ?v0a) rfl (by kernel_rfl) (by kernel_rfl) (by kernel_rfl) (by kernel_rfl) (by kernel_rfl) (by kernel_rfl) (fun _ _ _ h => h) (Or.inl ⟨by rfl, ?hy0a⟩) (by assumption) ?rest0a; (case hy0a => (intro w hSw; (try dsimp only at hSw); go_simp; (try (with_reducible rfl)))); (try simp only [Act.put, List.setIfInBounds_toArray, List.set_cons_zero, List.set_cons_succ])); (refine wpAnyT_takeL (i := 1) (v := ?v1a) rfl (by kernel_rfl) (by kernel_rfl) (by kernel_rfl) (by kernel_rfl) (by kernel_rfl) (by kernel_rfl) (fun _ _ _ h => h) (Or.inl ⟨by rfl, ?hy1a⟩) (by assumption) ?rest1a; (case hy1a => (intro w hSw; (try dsimp only at hSw); go_simp; (try (with_reducible rfl)))); (try simp only [Act.put, List.setIfInBounds_toArray, List.set_cons_zero, List.set_cons_succ])); (refine wpAnyT_takeL (i := 2) (v := ?v2a) rfl (by kernel_rfl) (by kernel_rfl) (by kernel_rfl) (by kernel_rfl) (by kernel_rfl) (by kernel_rfl) (fun _ _ _ h => h) (Or.inl ⟨by rfl, ?hy2a⟩) (by assumption) ?rest2a; (case hy2a => (intro w hSw; (try dsimp only at hSw); go_simp; (try (with_reducible rfl)))); (try simp only [Act.put, List.setIfInBounds_toArray, List.set_cons_zero, List.set_cons_succ])); (refine wpAnyT_takeL (i := 3) (v := ?v3a) rfl (by kernel_rfl) (by kernel_rfl) (by kernel_rfl) (by kernel_rfl) (by kernel_rfl) (by kernel_rfl) (fun _ _ _ h => h) (Or.inl ⟨by rfl, ?hy3a⟩) (by assumption) ?rest3a; (case hy3a => (intro w hSw; (try dsimp only at hSw); go_simp; (try (with_reducible rfl)))); (try simp only [Act.put, List.setIfInBounds_toArray, List.set_cons_zero, List.set_cons_succ])); (refine wpAnyT_takeL (i := 4) (v := ?v4a) rfl (by kernel_rfl) (by kernel_rfl) (by kernel_rfl) (by kernel_rfl) (by kernel_rfl) (by kernel_rfl) (fun _ _ _ h => h) (Or.inl ⟨by rfl, ?hy4a⟩) (by assumption) ?rest4a; (case hy4a => (intro w hSw; (try dsimp only at hSw); go_simp; (try (with_reducible rfl)))); (try simp only [Act.put, List.setIfInBounds_toArray, List.set_cons_zero, List.set_cons_succ])); (refine wpAnyT_takeL (i := 5) (v := ?v5a) rfl (by kernel_rfl) (by kernel_rfl) (by kernel_rfl) (by kernel_rfl) (by kernel_rfl) (by kernel_rfl) (fun _ _ _ h => h) (Or.inl ⟨by rfl, ?hy5a⟩) (by assumption) ?rest5a; (case hy5a => (intro w hSw; (try dsimp only at hSw); go_simp; (try (with_reducible rfl)))); (try simp only [Act.put, List.setIfInBounds_toArray, List.set_cons_zero, List.set_cons_succ])); (refine wpAnyT_takeL (i := 6) (v := ?v6a) rfl (by kernel_rfl) (by kernel_rfl) (by kernel_rfl) (by kernel_rfl) (by kernel_rfl) (by kernel_rfl) (fun _ _ _ h => h) (Or.inl ⟨by rfl, ?hy6a⟩) (by assumption) ?rest6a; (case hy6a => (intro w hSw; (try dsimp only at hSw); go_simp; (try (with_reducible rfl)))); (try simp only [Act.put, List.setIfInBounds_toArray, List.set_cons_zero, List.set_cons_succ])); refine wpAnyT_oneL (i := 7) (by kernel_rfl) rfl (fun K hK => ?_); go_simp; refine hK.out _ _ ?_ (fun hHeld => ?_); (· refine ⟨?_, ?_, ?_, ?_⟩ <;> simp [go_sem, x1, c0, c1]); clear hK K; (try simp only [Act.put, List.setIfInBounds_toArray, List.set_cons_zero, List.set_cons_succ]); refine wpAnyT_oneL (i := 8) (by kernel_rfl) rfl (fun K hK => ?_); (refine step_appZ kC rfl (.tmp 62) (.tmp 68) 28 rfl T ?_ 34 (.agg #[.int .i64 0, .int .i64 0]) 2 16 Try.underlying28 infoKey rfl (by omega) (fun _ => ⟨rfl, by simp [kC, Value.oneCell']⟩) (.slice A1 o.length d1) o (by simp [Act.eval, Act.put]) ?_ y _ _ rfl (cellsB ?_) ?_ ?_ ?_; (· exact Nat.le_of_lt (LtW.h (b := T))); (· exact owT_h (T := T)); (· simp); (· omega); (· omega); intro v' k' hA; obtain ⟨A9, d9, rfl, hO2, hF2⟩ := Ow.of_row (f := kC) (fun _ => rfl) hA.own; have hB2 := (fun h => Bld.app (T := T) (nm := nm) (l := o) h hA) inferInstance; have z1 : k'.v.cell? ⟨T, 1, none⟩ = some (.slice A1 o.length d1) := (World.cell?_of_block (a := ⟨T, 1, none⟩) (hA.keep T LtW.h hot.ne)).trans (by simp [go_sem, x1]); have z2 : k'.v.frozen? ⟨T, 1, none⟩ = false := (fz_block (hA.keep T LtW.h hot.ne)).trans (by simp [go_sem, x3]); clear hA hO2 hF2); refine hK.out _ _ ?_ (fun hHeld => ?_); (· refine ⟨z1, ?_, ?_, ?_⟩ <;> simp [go_sem, c0, c1]); clear hK K; (try simp only [Act.put, List.setIfInBounds_toArray, List.set_cons_zero, List.set_cons_succ]); refine wpAnyT_oneL (i := 9) (by kernel_rfl) rfl (fun K hK => ?_); go_simp; refine hK.out _ _ ?_ (fun hHeld => ?_); (· refine ⟨z1, ?_, ?_, ?_⟩ <;> simp [go_sem, c0, c1]); clear hK K; (try simp only [Act.put, List.setIfInBounds_toArray, List.set_cons_zero, List.set_cons_succ]); refine wpAnyT_lastL (by kernel_rfl) rfl (by kernel_rfl) (fun K hK => ?_); go_simp; refine hK.out _ _ ?_; clear hK K; (try simp only [Act.put, List.setIfInBounds_toArray, List.set_cons_zero, List.set_cons_succ]))
              go_wp2
              go_roundw
              case rel => exact ⟨qq + 1, _, false, by omega, rfl, by go_num, HU.out, _, ex_and (fun W => Bld T T nm _ (o ++ [y]) W) (by (refine Ok.toEx ?_; (repeat (first | (with_reducible exact Ok.rf _) | (with_reducible refine Ok.alloc ?_ _) | (with_reducible refine Ok.ex ?_ _) | (with_reducible refine Ok.drew ?_) | (with_reducible refine Ok.setCellI ?_ _ _ _) | (with_reducible refine Ok.exb ?_ _))))) (by simp only [List.length_append, List.length_singleton] at hB2 ⊢; exact hB2)⟩
              case measure => simp [intOf]; omega
            · have HU := hid (stP_eq hst h)
              clear hst
              generalize kyG l qq = y at *
              have g1 : decide (x.t ≤ y.t) = true := by simp; omega
              have g2 : (y.t != x.t) = false := by simp; omega
              have g3 : (y.t == x.t) = true := by rw [beq_iff_eq]; omega
              go_wp2_with (fail)
              (refine wp_region_ex (by kernel_rfl) (by kernel_rfl) ?_; (repeat (go_big_quiet_step (fail))); refine wpQuiet_nil ?_; rintro _ ⟨k2, rfl⟩)
              go_wp2_with ((at_builtin; go_loud (refine wpList_appZ kC _ rfl _ _ _ rfl T ?_ _ _ _ _ Try.underlying28 infoKey rfl (by omega) (fun _ => ⟨rfl, by simp [kC, Value.oneCell']⟩) (.slice A1 o.length d1) o rfl ?_ x _ _ rfl (cellsB ?_) ?_ ?_ ?_; (· exact Nat.le_of_lt (LtW.h (b := T))); (· exact owT_h (T := T)); (· simp); (· omega); (· omega); intro v' k' hA; obtain ⟨L, hL⟩ : ∃ L, o ++ [x] = L := ⟨_, rfl⟩; rw [hL] at hA; have hLL : L.length = o.length + 1 := (by rw [← hL]; simp); have HLL := hid hLL; have hLb : L.length ≤ 50 := (by omega); clear hLL; have HL := hid hL; clear hL; obtain ⟨A2, d2, rfl, hO2, hF2⟩ := Ow.of_row (f := kC) (fun _ => rfl) hA.own; have hB2 := (fun h => Bld.app (T := T) (nm := nm) (l := o) (l' := L) h hA) inferInstance; have z1 : k'.v.cell? ⟨T, 1, none⟩ = some (.slice A1 o.length d1) := (World.cell?_of_block (a := ⟨T, 1, none⟩) (hA.keep T LtW.h hot.ne)).trans (by simp [go_sem, x1]); have z2 : k'.v.frozen? ⟨T, 1, none⟩ = false := (fz_block (hA.keep T LtW.h hot.ne)).trans (by simp [go_sem, x3]); have z0 : k'.v.cell? ⟨T, 0, none⟩ = some (.string nm) := (World.cell?_of_block (a := ⟨T, 0, none⟩) (hA.keep T LtW.h hot.ne)).trans (by simp [go_sem, x0]); clear hA)))
              obtain ⟨j2, hj2, hB3⟩ := bld_fold (w0 := k.v) (by (refine Ok.toEx ?_; (repeat (first | (with_reducible exact Ok.rf _) | (with_reducible refine Ok.alloc ?_ _) | (with_reducible refine Ok.ex ?_ _) | (with_reducible refine Ok.drew ?_) | (with_reducible refine Ok.setCellI ?_ _ _ _) | (with_reducible refine Ok.exb ?_ _))))) hB2
              rw [hj2]
              clear hj2 hB2 z1 z2 z0 x0 x1 x2 x3
              (have x0 := hB3.c0; have x1 := hB3.c1; have x2 := hB3.f0; have x3 := hB3.f1; haveI hlt1 := hB3.lt; haveI hot := hB3.own; haveI hBi := hB3)
              (refine wp_region_ex (by kernel_rfl) (by kernel_rfl) ?_; (repeat (go_big_quiet_step (fail))); refine wpQuiet_nil ?_; rintro _ ⟨k3, rfl⟩)
              go_wp2
              go_roundw
              case rel => exact ⟨qq + 1, _, true, by omega, rfl, by go_num, HU.out.trans (by rw [HL.out]), (.slice A2 L.length d2), ex_and (fun W => Bld T T nm (.slice A2 L.length d2) L W) (by (refine Ok.toEx ?_; (repeat (first | (with_reducible exact Ok.rf _) | (with_reducible refine Ok.alloc ?_ _) | (with_reducible refine Ok.ex ?_ _) | (with_reducible refine Ok.drew ?_) | (with_reducible refine Ok.setCellI ?_ _ _ _) | (with_reducible refine Ok.exb ?_ _))))) (by infer_instance)⟩
              case measure => simp [intOf]; omega
            · have HU := hid (stP_gt hst h)
              clear hst
              generalize kyG l qq = y at *
              have g1 : decide (x.t ≤ y.t) = true := by simp; omega
              have g2 : (y.t != x.t) = true := by rw [bne_iff_ne]; omega
              have g3 : (y.t == x.t) = false := by rw [beq_eq_false_iff_ne]; omega
              go_wp2_with (fail)
              (refine wp_region_ex (by kernel_rfl) (by kernel_rfl) ?_; (repeat (go_big_quiet_step (fail))); refine wpQuiet_nil ?_; rintro _ ⟨k2, rfl⟩)
              go_wp2_with ((at_builtin; go_loud (refine wpList_appZ kC _ rfl _ _ _ rfl T ?_ _ _ _ _ Try.underlying28 infoKey rfl (by omega) (fun _ => ⟨rfl, by simp [kC, Value.oneCell']⟩) (.slice A1 o.length d1) o rfl ?_ x _ _ rfl (cellsB ?_) ?_ ?_ ?_; (· exact Nat.le_of_lt (LtW.h (b := T))); (· exact owT_h (T := T)); (· simp); (· omega); (· omega); intro v' k' hA; obtain ⟨L, hL⟩ : ∃ L, o ++ [x] = L := ⟨_, rfl⟩; rw [hL] at hA; have hLL : L.length = o.length + 1 := (by rw [← hL]; simp); have HLL := hid hLL; have hLb : L.length ≤ 50 := (by omega); clear hLL; have HL := hid hL; clear hL; obtain ⟨A2, d2, rfl, hO2, hF2⟩ := Ow.of_row (f := kC) (fun _ => rfl) hA.own; have hB2 := (fun h => Bld.app (T := T) (nm := nm) (l := o) (l' := L) h hA) inferInstance; have z1 : k'.v.cell? ⟨T, 1, none⟩ = some (.slice A1 o.length d1) := (World.cell?_of_block (a := ⟨T, 1, none⟩) (hA.keep T LtW.h hot.ne)).trans (by simp [go_sem, x1]); have z2 : k'.v.frozen? ⟨T, 1, none⟩ = false := (fz_block (hA.keep T LtW.h hot.ne)).trans (by simp [go_sem, x3]); have z0 : k'.v.cell? ⟨T, 0, none⟩ = some (.string nm) := (World.cell?_of_block (a := ⟨T, 0, none⟩) (hA.keep T LtW.h hot.ne)).trans (by simp [go_sem, x0]); clear hA)))
              obtain ⟨j2, hj2, hB3⟩ := bld_fold (w0 := k.v) (by (refine Ok.toEx ?_; (repeat (first | (with_reducible exact Ok.rf _) | (with_reducible refine Ok.alloc ?_ _) | (with_reducible refine Ok.ex ?_ _) | (with_reducible refine Ok.drew ?_) | (with_reducible refine Ok.setCellI ?_ _ _ _) | (with_reducible refine Ok.exb ?_ _))))) hB2
              rw [hj2]
              clear hj2 hB2 z1 z2 z0 x0 x1 x2 x3
              (have x0 := hB3.c0; have x1 := hB3.c1; have x2 := hB3.f0; have x3 := hB3.f1; haveI hlt1 := hB3.lt; haveI hot := hB3.own; haveI hBi := hB3)
              (refine wp_region_ex (by kernel_rfl) (by kernel_rfl) ?_; (repeat (go_big_quiet_step (fail))); refine wpQuiet_nil ?_; rintro _ ⟨k3, rfl⟩)
              go_wp2_with (fail)
              (refine wp_region_T (fun W => W.cell? ⟨T, 1, none⟩ = some (.slice A2 L.length d2) ∧ W.cell? ⟨w.heap.size, 1, none⟩ = some (.slice (some ⟨ba, oa, none⟩) l.length c) ∧ W.cell? ⟨ba, oa + qq * 2, none⟩ = some (.int .i64 y.t) ∧ W.cell? ⟨ba, oa + qq * 2 + 1, none⟩ = some (.int .i64 y.v)) 10 (by kernel_rfl) ?_ (fun hHeld => ?_); (· refine ⟨?_, ?_, ?_, ?_⟩ <;> simp [go_sem, x1, c0, c1]); (refine wpAnyT_takeL (i := 0) (v := ?v0b) rfl (by kernel_rfl) (by kernel_rfl) (by kernel_rfl) (by kernel_rfl) (by kernel_rfl) (by kernel_rfl) (fun _ _ _ h => h) (Or.inl ⟨by rfl, ?hy0b⟩) (by assumption) ?rest0b; (case hy0b => (intro w hSw; (try dsimp only at hSw); go_simp; (try (with_reducible rfl)))); (try simp only [Act.put, List.setIfInBounds_toArray, List.set_cons_zero, List.set_cons_succ])); (refine wpAnyT_takeL (i := 1) (v := ?v1b) rfl (by kernel_rfl) (by kernel_rfl) (by kernel_rfl) (by kernel_rfl) (by kernel_rfl) (by kernel_rfl) (fun _ _ _ h => h) (Or.inl ⟨by rfl, ?hy1b⟩) (by assumption) ?rest1b; (case hy1b => (intro w hSw; (try dsimp only at hSw); go_simp; (try (with_reducible rfl)))); (try simp only [Act.put, List.setIfInBounds_toArray, List.set_cons_zero, List.set_cons_succ])); (refine wpAnyT_takeL (i := 2) (v := ?v2b) rfl (by kernel_rfl) (by kernel_rfl) (by kernel_rfl) (by kernel_rfl) (by kernel_rfl) (by kernel_rfl) (fun _ _ _ h => h) (Or.inl ⟨by rfl, ?hy2b⟩) (by assumption) ?rest2b; (case hy2b => (intro w hSw; (try dsimp only at hSw); go_simp; (try (with_reducible rfl)))); (try simp only [Act.put, List.setIfInBounds_toArray, List.set_cons_zero, List.set_cons_succ])); (refine wpAnyT_takeL (i := 3) (v := ?v3b) rfl (by kernel_rfl) (by kernel_rfl) (by kernel_rfl) (by kernel_rfl) (by kernel_rfl) (by kernel_rfl) (fun _ _ _ h => h) (Or.inl ⟨by rfl, ?hy3b⟩) (by assumption) ?rest3b; (case hy3b => (intro w hSw; (try dsimp only at hSw); go_simp; (try (with_reducible rfl)))); (try simp only [Act.put, List.setIfInBounds_toArray, List.set_cons_zero, List.set_cons_succ])); (refine wpAnyT_takeL (i := 4) (v := ?v4b) rfl (by kernel_rfl) (by kernel_rfl) (by kernel_rfl) (by kernel_rfl) (by kernel_rfl) (by kernel_rfl) (fun _ _ _ h => h) (Or.inl ⟨by rfl, ?hy4b⟩) (by assumption) ?rest4b; (case hy4b => (intro w hSw; (try dsimp only at hSw); go_simp; (try (with_reducible rfl)))); (try simp only [Act.put, List.setIfInBounds_toArray, List.set_cons_zero, List.set_cons_succ])); (refine wpAnyT_takeL (i := 5) (v := ?v5b) rfl (by kernel_rfl) (by kernel_rfl) (by kernel_rfl) (by kernel_rfl) (by kernel_rfl) (by kernel_rfl) (fun _ _ _ h => h) (Or.inl ⟨by rfl, ?hy5b⟩) (by assumption) ?rest5b; (case hy5b => (intro w hSw; (try dsimp only at hSw); go_simp; (try (with_reducible rfl)))); (try simp only [Act.put, List.setIfInBounds_toArray, List.set_cons_zero, List.set_cons_succ])); (refine wpAnyT_takeL (i := 6) (v := ?v6b) rfl (by kernel_rfl) (by kernel_rfl) (by kernel_rfl) (by kernel_rfl) (by kernel_rfl) (by kernel_rfl) (fun _ _ _ h => h) (Or.inl ⟨by rfl, ?hy6b⟩) (by assumption) ?rest6b; (case hy6b => (intro w hSw; (try dsimp only at hSw); go_simp; (try (with_reducible rfl)))); (try simp only [Act.put, List.setIfInBounds_toArray, List.set_cons_zero, List.set_cons_succ])); refine wpAnyT_oneL (i := 7) (by kernel_rfl) rfl (fun K hK => ?_); go_simp; refine hK.out _ _ ?_ (fun hHeld => ?_); (· refine ⟨?_, ?_, ?_, ?_⟩ <;> simp [go_sem, x1, c0, c1]); clear hK K; (try simp only [Act.put, List.setIfInBounds_toArray, List.set_cons_zero, List.set_cons_succ]); refine wpAnyT_oneL (i := 8) (by kernel_rfl) rfl (fun K hK => ?_); (refine step_appZ kC rfl (.tmp 62) (.tmp 68) 28 rfl T ?_ 34 (.agg #[.int .i64 0, .int .i64 0]) 2 16 Try.underlying28 infoKey rfl (by omega) (fun _ => ⟨rfl, by simp [kC, Value.oneCell']⟩) (.slice A2 L.length d2) L (by simp [Act.eval, Act.put]) ?_ y _ _ rfl (cellsB ?_) ?_ ?_ ?_; (· exact Nat.le_of_lt (LtW.h (b := T))); (· exact owT_h (T := T)); (· simp); (· omega); (· omega); intro v' k' hA; obtain ⟨A9, d9, rfl, hO2, hF2⟩ := Ow.of_row (f := kC) (fun _ => rfl) hA.own; have hB2 := (fun h => Bld.app (T := T) (nm := nm) (l := L) h hA) inferInstance; have z1 : k'.v.cell? ⟨T, 1, none⟩ = some (.slice A2 L.length d2) := (World.cell?_of_block (a := ⟨T, 1, none⟩) (hA.keep T LtW.h hot.ne)).trans (by simp [go_sem, x1]); have z2 : k'.v.frozen? ⟨T, 1, none⟩ = false := (fz_block (hA.keep T LtW.h hot.ne)).trans (by simp [go_sem, x3]); clear hA hO2 hF2); refine hK.out _ _ ?_ (fun hHeld => ?_); (· refine ⟨z1, ?_, ?_, ?_⟩ <;> simp [go_sem, c0, c1]); clear hK K; (try simp only [Act.put, List.setIfInBounds_toArray, List.set_cons_zero, List.set_cons_succ]); refine wpAnyT_oneL (i := 9) (by kernel_rfl) rfl (fun K hK => ?_); go_simp; refine hK.out _ _ ?_ (fun hHeld => ?_); (· refine ⟨z1, ?_, ?_, ?_⟩ <;> simp [go_sem, c0, c1]); clear hK K; (try simp only [Act.put, List.setIfInBounds_toArray, List.set_cons_zero, List.set_cons_succ]); refine wpAnyT_lastL (by kernel_rfl) rfl (by kernel_rfl) (fun K hK => ?_); go_simp; refine hK.out _ _ ?_; clear hK K; (try simp only [Act.put, List.setIfInBounds_toArray, List.set_cons_zero, List.set_cons_succ]))
              go_wp2
              go_roundw
              case rel => exact ⟨qq + 1, _, true, by omega, rfl, by go_num, HU.out.trans (by rw [HL.out]), _, ex_and (fun W => Bld T T nm _ (L ++ [y]) W) (by (refine Ok.toEx ?_; (repeat (first | (with_reducible exact Ok.rf _) | (with_reducible refine Ok.alloc ?_ _) | (with_reducible refine Ok.ex ?_ _) | (with_reducible refine Ok.drew ?_) | (with_reducible refine Ok.setCellI ?_ _ _ _) | (with_reducible refine Ok.exb ?_ _))))) (by simp only [List.length_append, List.length_singleton] at hB2 ⊢; exact hB2)⟩
              case measure => simp [intOf]; omega
          · by_cases h : (kyG l qq).t = x.t
            · have HU := hid (stP_off hst h)
              clear hst
              generalize kyG l qq = y at *
              have g2 : (y.t != x.t) = false := by simp; omega
              have g3 : (y.t == x.t) = true := by rw [beq_iff_eq]; omega
              go_wp2_with (fail)
              (refine wp_region_ex (by kernel_rfl) (by kernel_rfl) ?_; (repeat (go_big_quiet_step (fail))); refine wpQuiet_nil ?_; rintro _ ⟨k2, rfl⟩)
              go_wp2_with (fail)
              (refine wp_region_ex (by kernel_rfl) (by kernel_rfl) ?_; (repeat (go_big_quiet_step (fail))); refine wpQuiet_nil ?_; rintro _ ⟨k3, rfl⟩)
              go_wp2
              go_roundw
              case rel => exact ⟨qq + 1, _, true, by omega, rfl, by go_num, HU.out, (.slice A1 o.length d1), ex_and (fun W => Bld T T nm (.slice A1 o.length d1) o W) (by (refine Ok.toEx ?_; (repeat (first | (with_reducible exact Ok.rf _) | (with_reducible refine Ok.alloc ?_ _) | (with_reducible refine Ok.ex ?_ _) | (with_reducible refine Ok.drew ?_) | (with_reducible refine Ok.setCellI ?_ _ _ _) | (with_reducible refine Ok.exb ?_ _))))) (by infer_instance)⟩
              case measure => simp [intOf]; omega
            · have HU := hid (stP_on hst h)
              clear hst
              generalize kyG l qq = y at *
              have g2 : (y.t != x.t) = true := by rw [bne_iff_ne]; omega
              have g3 : (y.t == x.t) = false := by rw [beq_eq_false_iff_ne]; omega
              go_wp2_with (fail)
              (refine wp_region_ex (by kernel_rfl) (by kernel_rfl) ?_; (repeat (go_big_quiet_step (fail))); refine wpQuiet_nil ?_; rintro _ ⟨k2, rfl⟩)
              go_wp2_with (fail)
              (refine wp_region_ex (by kernel_rfl) (by kernel_rfl) ?_; (repeat (go_big_quiet_step (fail))); refine wpQuiet_nil ?_; rintro _ ⟨k3, rfl⟩)
              go_wp2_with (fail)
              (refine wp_region_T (fun W => W.cell? ⟨T, 1, none⟩ = some (.slice A1 o.length d1) ∧ W.cell? ⟨w.heap.size, 1, none⟩ = some (.slice (some ⟨ba, oa, none⟩) l.length c) ∧ W.cell? ⟨ba, oa + qq * 2, none⟩ = some (.int .i64 y.t) ∧ W.cell? ⟨ba, oa + qq * 2 + 1, none⟩ = some (.int .i64 y.v)) 10 (by kernel_rfl) ?_ (fun hHeld => ?_); (· refine ⟨?_, ?_, ?_, ?_⟩ <;> simp [go_sem, x1, c0, c1]); (refine wpAnyT_takeL (i := 0) (v := ?v0c) rfl (by kernel_rfl) (by kernel_rfl) (by kernel_rfl) (by kernel_rfl) (by kernel_rfl) (by kernel_rfl) (fun _ _ _ h => h) (Or.inl ⟨by rfl, ?hy0c⟩) (by assumption) ?rest0c; (case hy0c => (intro w hSw; (try dsimp only at hSw); go_simp; (try (with_reducible rfl)))); (try simp only [Act.put, List.setIfInBounds_toArray, List.set_cons_zero, List.set_cons_succ])); (refine wpAnyT_takeL (i := 1) (v := ?v1c) rfl (by kernel_rfl) (by kernel_rfl) (by kernel_rfl) (by kernel_rfl) (by kernel_rfl) (by kernel_rfl) (fun _ _ _ h => h) (Or.inl ⟨by rfl, ?hy1c⟩) (by assumption) ?rest1c; (case hy1c => (intro w hSw; (try dsimp only at hSw); go_simp; (try (with_reducible rfl)))); (try simp only [Act.put, List.setIfInBounds_toArray, List.set_cons_zero, List.set_cons_succ])); (refine wpAnyT_takeL (i := 2) (v := ?v2c) rfl (by kernel_rfl) (by kernel_rfl) (by kernel_rfl) (by kernel_rfl) (by kernel_rfl) (by kernel_rfl) (fun _ _ _ h => h) (Or.inl ⟨by rfl, ?hy2c⟩) (by assumption) ?rest2c; (case hy2c => (intro w hSw; (try dsimp only at hSw); go_simp; (try (with_reducible rfl)))); (try simp only [Act.put, List.setIfInBounds_toArray, List.set_cons_zero, List.set_cons_succ])); (refine wpAnyT_takeL (i := 3) (v := ?v3c) rfl (by kernel_rfl) (by kernel_rfl) (by kernel_rfl) (by kernel_rfl) (by kernel_rfl) (by kernel_rfl) (fun _ _ _ h => h) (Or.inl ⟨by rfl, ?hy3c⟩) (by assumption) ?rest3c; (case hy3c => (intro w hSw; (try dsimp only at hSw); go_simp; (try (with_reducible rfl)))); (try simp only [Act.put, List.setIfInBounds_toArray, List.set_cons_zero, List.set_cons_succ])); (refine wpAnyT_takeL (i := 4) (v := ?v4c) rfl (by kernel_rfl) (by kernel_rfl) (by kernel_rfl) (by kernel_rfl) (by kernel_rfl) (by kernel_rfl) (fun _ _ _ h => h) (Or.inl ⟨by rfl, ?hy4c⟩) (by assumption) ?rest4c; (case hy4c => (intro w hSw; (try dsimp only at hSw); go_simp; (try (with_reducible rfl)))); (try simp only [Act.put, List.setIfInBounds_toArray, List.set_cons_zero, List.set_cons_succ])); (refine wpAnyT_takeL (i := 5) (v := ?v5c) rfl (by kernel_rfl) (by kernel_rfl) (by kernel_rfl) (by kernel_rfl) (by kernel_rfl) (by kernel_rfl) (fun _ _ _ h => h) (Or.inl ⟨by rfl, ?hy5c⟩) (by assumption) ?rest5c; (case hy5c => (intro w hSw; (try dsimp only at hSw); go_simp; (try (with_reducible rfl)))); (try simp only [Act.put, List.setIfInBounds_toArray, List.set_cons_zero, List.set_cons_succ])); (refine wpAnyT_takeL (i := 6) (v := ?v6c) rfl (by kernel_rfl) (by kernel_rfl) (by kernel_rfl) (by kernel_rfl) (by kernel_rfl) (by kernel_rfl) (fun _ _ _ h => h) (Or.inl ⟨by rfl, ?hy6c⟩) (by assumption) ?rest6c; (case hy6c => (intro w hSw; (try dsimp only at hSw); go_simp; (try (with_reducible rfl)))); (try simp only [Act.put, List.setIfInBounds_toArray, List.set_cons_zero, List.set_cons_succ])); refine wpAnyT_oneL (i := 7) (by kernel_rfl) rfl (fun K hK => ?_); go_simp; refine hK.out _ _ ?_ (fun hHeld => ?_); (· refine ⟨?_, ?_, ?_, ?_⟩ <;> simp [go_sem, x1, c0, c1]); clear hK K; (try simp only [Act.put, List.setIfInBounds_toArray, List.set_cons_zero, List.set_cons_succ]); refine wpAnyT_oneL (i := 8) (by kernel_rfl) rfl (fun K hK => ?_); (refine step_appZ kC rfl (.tmp 62) (.tmp 68) 28 rfl T ?_ 34 (.agg #[.int .i64 0, .int .i64 0]) 2 16 Try.underlying28 infoKey rfl (by omega) (fun _ => ⟨rfl, by simp [kC, Value.oneCell']⟩) (.slice A1 o.length d1) o (by simp [Act.eval, Act.put]) ?_ y _ _ rfl (cellsB ?_) ?_ ?_ ?_; (· exact Nat.le_of_lt (LtW.h (b := T))); (· exact owT_h (T := T)); (· simp); (· omega); (· omega); intro v' k' hA; obtain ⟨A9, d9, rfl, hO2, hF2⟩ := Ow.of_row (f := kC) (fun _ => rfl) hA.own; have hB2 := (fun h => Bld.app (T := T) (nm := nm) (l := o) h hA) inferInstance; have z1 : k'.v.cell? ⟨T, 1, none⟩ = some (.slice A1 o.length d1) := (World.cell?_of_block (a := ⟨T, 1, none⟩) (hA.keep T LtW.h hot.ne)).trans (by simp [go_sem, x1]); have z2 : k'.v.frozen? ⟨T, 1, none⟩ = false := (fz_block (hA.keep T LtW.h hot.ne)).trans (by simp [go_sem, x3]); clear hA hO2 hF2); refine hK.out _ _ ?_ (fun hHeld => ?_); (· refine ⟨z1, ?_, ?_, ?_⟩ <;> simp [go_sem, c0, c1]); clear hK K; (try simp only [Act.put, List.setIfInBounds_toArray, List.set_cons_zero, List.set_cons_succ]); refine wpAnyT_oneL (i := 9) (by kernel_rfl) rfl (fun K hK => ?_); go_simp; refine hK.out _ _ ?_ (fun hHeld => ?_); (· refine ⟨z1, ?_, ?_, ?_⟩ <;> simp [go_sem, c0, c1]); clear hK K; (try simp only [Act.put, List.setIfInBounds_toArray, List.set_cons_zero, List.set_cons_succ]); refine wpAnyT_lastL (by kernel_rfl) rfl (by kernel_rfl) (fun K hK => ?_); go_simp; refine hK.out _ _ ?_; clear hK K; (try simp only [Act.put, List.setIfInBounds_toArray, List.set_cons_zero, List.set_cons_succ]))
              go_wp2
              go_roundw
              case rel => exact ⟨qq + 1, _, true, by omega, rfl, by go_num, HU.out, _, ex_and (fun W => Bld T T nm _ (o ++ [y]) W) (by (refine Ok.toEx ?_; (repeat (first | (with_reducible exact Ok.rf _) | (with_reducible refine Ok.alloc ?_ _) | (with_reducible refine Ok.ex ?_ _) | (with_reducible refine Ok.drew ?_) | (with_reducible refine Ok.setCellI ?_ _ _ _) | (with_reducible refine Ok.exb ?_ _))))) (by simp only [List.length_append, List.length_singleton] at hB2 ⊢; exact hB2)⟩
              case measure => simp [intOf]; omega
        · obtain rfl : qq = l.length := by omega
          have hmx : o.length ≤ 50 := by omega
          cases d
          · have HS := hid (stA_off hst)
            clear hst
            go_upto_region 17 with ((at_builtin; go_loud (refine wpList_appZ kC _ rfl _ _ _ rfl T ?_ _ _ _ _ Try.underlying28 infoKey rfl (by omega) (fun _ => ⟨rfl, by simp [kC, Value.oneCell']⟩) (.slice A1 o.length d1) o rfl ?_ x _ _ rfl (cellsB ?_) ?_ ?_ ?_; (· exact Nat.le_of_lt (LtW.h (b := T))); (· exact owT_h (T := T)); (· simp); (· omega); (· omega); intro v' k' hA; obtain ⟨L, hL⟩ : ∃ L, o ++ [x] = L := ⟨_, rfl⟩; rw [hL] at hA; have hLL : L.length = o.length + 1 := (by rw [← hL]; simp); have HLL := hid hLL; have hLb : L.length ≤ 50 := (by omega); clear hLL; have HL := hid hL; clear hL; obtain ⟨A2, d2, rfl, hO2, hF2⟩ := Ow.of_row (f := kC) (fun _ => rfl) hA.own; have hB2 := (fun h => Bld.app (T := T) (nm := nm) (l := o) (l' := L) h hA) inferInstance; have z1 : k'.v.cell? ⟨T, 1, none⟩ = some (.slice A1 o.length d1) := (World.cell?_of_block (a := ⟨T, 1, none⟩) (hA.keep T LtW.h hot.ne)).trans (by simp [go_sem, x1]); have z2 : k'.v.frozen? ⟨T, 1, none⟩ = false := (fz_block (hA.keep T LtW.h hot.ne)).trans (by simp [go_sem, x3]); have z0 : k'.v.cell? ⟨T, 0, none⟩ = some (.string nm) := (World.cell?_of_block (a := ⟨T, 0, none⟩) (hA.keep T LtW.h hot.ne)).trans (by simp [go_sem, x0]); clear hA)))
            obtain ⟨g, rfl, hw9⟩ := hO2.own (by rw [HLL.out]; omega)
            have hg := hF2 _ _ _ rfl
            haveI : NeB (w.heap.size + 1 + 1) g := ⟨by omega⟩
            haveI : NeB T g := ⟨fun h => hB2.own.ne (by rw [h]; rfl)⟩
            have HS2 : Hid (stA l x = L) := hid (by rw [HS.out, HL.out])
            by_cases hfl : 24 < L.length
            · have HR := hid (HFull.out (by rw [HS2.out]; exact hfl))
              have hfi : (24 : Int) < (L.length : Int) := by omega
              go_wp2
              (refine bodyPost_ret (v := _) (by first | (simp [results, Try.results6, go_sem]; done) | (simp [results, Try.results6, go_sem]; rfl)) rfl ?_; rw [HR.out]; refine trPost_err (by rfl) ?_; (refine Ok.toEx ?_; (repeat (first | (with_reducible exact Ok.rf _) | (with_reducible refine Ok.alloc ?_ _) | (with_reducible refine Ok.ex ?_ _) | (with_reducible refine Ok.drew ?_) | (with_reducible refine Ok.setCellI ?_ _ _ _) | (with_reducible refine Ok.exb ?_ _)))))
            · have HR := hid (HGo.out (by rw [HS2.out]; exact hfl))
              have hfi : ¬ (24 : Int) < (L.length : Int) := by omega
              go_wp2
              refine bodyPost_ret (v := _) (by first | (simp [results, Try.results6, go_sem]; done) | (simp [results, Try.results6, go_sem]; rfl)) rfl ?_
              rw [HR.out, HS2.out]
              refine trPostN_ok rfl (by rfl) ?_ (by infer_instance) ⟨by omega⟩
              (refine Ok.toEx ?_; (repeat (first | (with_reducible exact Ok.rf _) | (with_reducible refine Ok.alloc ?_ _) | (with_reducible refine Ok.ex ?_ _) | (with_reducible refine Ok.drew ?_) | (with_reducible refine Ok.setCellI ?_ _ _ _) | (with_reducible refine Ok.exb ?_ _))))
          · have HS := hid (stA_on hst)
            have hpos : 1 ≤ o.length := by have h := stP_pos l x l.length; rw [hst] at h; exact h rfl
            clear hst
            obtain ⟨g, rfl, hw9⟩ := hO1.own hpos
            have hg := hF1 _ _ _ rfl
            haveI : NeB (w.heap.size + 1 + 1) g := ⟨by omega⟩
            haveI : NeB T g := ⟨fun h => hot.ne (by rw [h]; rfl)⟩
            by_cases hfl : 24 < o.length
            · have HR := hid (HFull.out (by rw [HS.out]; exact hfl))
              have hfi : (24 : Int) < (o.length : Int) := by omega
              go_wp2
              (refine bodyPost_ret (v := _) (by first | (simp [results, Try.results6, go_sem]; done) | (simp [results, Try.results6, go_sem]; rfl)) rfl ?_; rw [HR.out]; refine trPost_err (by rfl) ?_; (refine Ok.toEx ?_; (repeat (first | (with_reducible exact Ok.rf _) | (with_reducible refine Ok.alloc ?_ _) | (with_reducible refine Ok.ex ?_ _) | (with_reducible refine Ok.drew ?_) | (with_reducible refine Ok.setCellI ?_ _ _ _) | (with_reducible refine Ok.exb ?_ _)))))
            · have HR := hid (HGo.out (by rw [HS.out]; exact hfl))
              have hfi : ¬ (24 : Int) < (o.length : Int) := by omega
              go_wp2
              refine bodyPost_ret (v := _) (by first | (simp [results, Try.results6, go_sem]; done) | (simp [results, Try.results6, go_sem]; rfl)) rfl ?_
              rw [HR.out, HS.out]
              refine trPostN_ok rfl (by rfl) ?_ (by infer_instance) ⟨by omega⟩
              (refine Ok.toEx ?_; (repeat (first | (with_reducible exact Ok.rf _) | (with_reducible refine Ok.alloc ?_ _) | (with_reducible refine Ok.ex ?_ _) | (with_reducible refine Ok.drew ?_) | (with_reducible refine Ok.setCellI ?_ _ _ _) | (with_reducible refine Ok.exb ?_ _))))
end
end Go.Proofs.Ytebapdgajjimpaa
