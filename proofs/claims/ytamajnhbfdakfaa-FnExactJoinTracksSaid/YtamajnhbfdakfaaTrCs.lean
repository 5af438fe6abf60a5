/-
  CutTrack of the specification. Conditions: those typed at each theorem.
-/
import Derived.Test.YtamajnhbfdakfaaTrCt
namespace Go.Proofs.Ytamajnhbfdakfaa
open Go.RowKit
/-- block T is a track of a name whose keys append has built -/
class Bld (B T : Nat) (nm : ByteArray) (v : Value) (l : List Ky) (W : World) : Prop where
  lt : LtW T W
  ge : B ≤ T
  c0 : W.cell? ⟨T, 0, none⟩ = some (.string nm)
  c1 : W.cell? ⟨T, 1, none⟩ = some v
  f0 : W.frozen? ⟨T, 0, none⟩ = false
  f1 : W.frozen? ⟨T, 1, none⟩ = false
  own : OwT B T 63 2 v l.length (l.flatMap kC) W
section
variable {B T : Nat} {nm : ByteArray} {v v' : Value} {l l' : List Ky} {W : World}
theorem Bld.block {W' : World} (h : Bld B T nm v l W) (hs : W.heap.size ≤ W'.heap.size) (hb : W'.heap[T]? = W.heap[T]?) (ho : OwT B T 63 2 v' l'.length (l'.flatMap kC) W') (hv : v' = v) : Bld B T nm v' l' W' := by
  subst hv
  exact ⟨⟨Nat.lt_of_lt_of_le h.lt.h hs⟩, h.ge, (World.cell?_of_block (a := ⟨T, 0, none⟩) hb).trans h.c0, (World.cell?_of_block (a := ⟨T, 1, none⟩) hb).trans h.c1, (fz_block hb).trans h.f0, (fz_block hb).trans h.f1, ho⟩
instance (priority := 900) Bld.ex [h : Bld B T nm v l W] (k : Ex W) : Bld B T nm v l k.v := h.block k.size (k.block h.lt.h) (haveI := h.own; inferInstance) rfl
instance (priority := 900) Bld.alloc [h : Bld B T nm v l W] (o : Obj) : Bld B T nm v l (W.alloc o) := h.block (by simp) (Below.heap_alloc _ _ _ h.lt.h) (haveI := h.own; inferInstance) rfl
instance (priority := 900) Bld.drew [h : Bld B T nm v l W] : Bld B T nm v l W.drew := h.block (Nat.le_refl _) rfl (haveI := h.own; inferInstance) rfl
theorem Bld.app (h : Bld B T nm v l W) {k : Exb B W} (hA : Apd B 63 2 v v' W k l'.length (l'.flatMap kC)) : Bld B T nm v' l' (k.v.setCell ⟨T, 1, none⟩ v') := by
  have hb := hA.blk h.own h.lt.h
  have ho : OwT B T 63 2 v' l'.length (l'.flatMap kC) k.v := hA.owt h.own h.lt.h
  have hlt : T < k.v.heap.size := Nat.lt_of_lt_of_le h.lt.h k.h.size
  refine ⟨⟨by rw [size_setCell']; exact hlt⟩, h.ge, ?_, ?_, ?_, ?_, inferInstance⟩
  · rw [cell_nbI _ _ _ _ _ (by omega)]
    exact (World.cell?_of_block (a := ⟨T, 0, none⟩) hb).trans h.c0
  · rw [cell_setI, (World.cell?_of_block (a := ⟨T, 1, none⟩) hb).trans h.c1]; rfl
  · rw [frozen_setI]; exact (fz_block hb).trans h.f0
  · rw [frozen_setI]; exact (fz_block hb).trans h.f1
end
theorem row_oneB (w : World) (B : Nat) (hB : B ≤ w.heap.size) (e : TypeId) (x : Ky) : (w.alloc (.cells #[.int .i64 x.t, .int .i64 x.v] e)).ownsRow B e 2 (.slice (some ⟨w.heap.size, 0, none⟩) 1 1) [x].length ([x].flatMap kC) :=
  ⟨by simp [kC], .inr ⟨w.heap.size, 1, #[.int .i64 x.t, .int .i64 x.v], rfl, hB, heap_alloc_new w _, Nat.le_refl _, by simp [maxLen], rfl, by simp [kC]⟩⟩
theorem one_row (a b : Int) : ∀ (k : Nat) (hk : k < [(⟨a, b⟩ : Ky)].length) (i : Nat) (v : Value), (kC [(⟨a, b⟩ : Ky)][k])[i]? = some v → i < 2 → ((#[Value.int .i64 a, Value.int .i64 b] : Array Value)[k * 2 + i]?).getD undef = v := by
  intro k hk i v hv hi
  have hk : k = 0 := by simp at hk; omega
  subst hk
  match i, hi with
  | 0, _ => simp [kC] at hv ⊢; exact hv
  | 1, _ => simp [kC] at hv ⊢; exact hv
section
set_option maxHeartbeats 6400000
set_option maxRecDepth 20000
theorem sCut_any (nm : ByteArray) (A : Option Addr) (c : Nat) (l : List Ky) (f u : Int) (w : World) [hl : Rd 2 kC w A l] (hs : nm.size ≤ maxLen) (hn : l.length ≤ 1048576) :
    Calls Try.prog 45 #[.agg #[.string nm, .slice A l.length c], .int .i64 f, .int .i64 u] w (TrPost (cutR nm l f u) w) := by
  cases hv : vT nm l
  · have HR := hid (cutR_inv (f := f) (u := u) hv)
    go_enter Try.func45, Try.ntmps45
    go_wp2_with ((go_at_call 64; (refine (one_any nm A c l _ _ hs hn ?_ ?_).mono ?_); (· simp [go_sem]); (· simp [go_sem]); rw [hv]; rintro e w' ⟨rfl, k, rfl⟩))
    (refine bodyPost_ret (v := _) (by first | (simp [results, Try.results45, go_sem]; done) | (simp [results, Try.results45, go_sem]; rfl)) rfl ?_; rw [HR.out]; refine trPost_err (by rfl) ?_; (refine Ok.toEx ?_; (repeat (first | (with_reducible exact Ok.rf _) | (with_reducible refine Ok.alloc ?_ _) | (with_reducible refine Ok.ex ?_ _) | (with_reducible refine Ok.drew ?_) | (with_reducible refine Ok.setCellI ?_ _ _ _) | (with_reducible refine Ok.exb ?_ _)))))
  · by_cases hd : cutOk f u
    rotate_left
    · have HR := hid (cutR_rng hv hd)
      rcases cutOk_not hd with h | ⟨h1, h⟩ | ⟨h1, h2, h⟩
      all_goals
        clear hd
        go_enter Try.func45, Try.ntmps45
        go_wp2_with (first | (go_at_call 64; (refine (one_any nm A c l _ _ hs hn ?_ ?_).mono ?_); (· simp [go_sem]); (· simp [go_sem]); rw [hv]; rintro e w' ⟨rfl, k, rfl⟩) | (go_at_call 73; first | (refine (tm_yes _ _ (by omega) (by omega)).mono ?_; rintro e w' ⟨rfl, rfl⟩) | (refine (tm_no _ _ (by omega)).mono ?_; rintro e w' ⟨rfl, rfl⟩)))
        (refine bodyPost_ret (v := _) (by first | (simp [results, Try.results45, go_sem]; done) | (simp [results, Try.results45, go_sem]; rfl)) rfl ?_; rw [HR.out]; refine trPost_err (by rfl) ?_; (refine Ok.toEx ?_; (repeat (first | (with_reducible exact Ok.rf _) | (with_reducible refine Ok.alloc ?_ _) | (with_reducible refine Ok.ex ?_ _) | (with_reducible refine Ok.drew ?_) | (with_reducible refine Ok.setCellI ?_ _ _ _) | (with_reducible refine Ok.exb ?_ _)))))
    · have hk := (vT_of hv).2.vk
      obtain ⟨hk1, hk2⟩ := hk.n
      have HK := hid hk
      have HA := hid hl.kg
      have HFull := hid (cutR_full (u := u) hv hd)
      have HGo := hid (cutR_go (u := u) hv hd)
      obtain ⟨⟨hf1, hf2⟩, ⟨hu1, hu2⟩, hfu⟩ := hd
      obtain ⟨V0, hV0⟩ : ∃ V0, vAt l f = V0 := ⟨_, rfl⟩
      obtain ⟨V1, hV1⟩ : ∃ V1, vAt l u = V1 := ⟨_, rfl⟩
      have H0 := hid hV0
      have H1 := hid hV1
      have HP0 : Hid (cutP l f u 0 = [⟨0, V0⟩]) := hid (by rw [← hV0]; rfl)
      have HA1 : Hid (cutP l f u l.length ++ [(⟨u - f, V1⟩ : Ky)] = cutA l f u) := hid (by rw [← hV1]; rfl)
      have hcl := (cutA_len l f u).1
      have hcl2 := (cutA_len l f u).2
      clear hV0 hV1 hk
      go_enter Try.func45, Try.ntmps45
      go_upto_region 5 with (first | (go_at_call 64; (refine (one_any nm A c l _ _ hs hn ?_ ?_).mono ?_); (· simp [go_sem]); (· simp [go_sem]); rw [hv]; rintro e w' ⟨rfl, k, rfl⟩) | (go_at_call 73; first | (refine (tm_yes _ _ (by omega) (by omega)).mono ?_; rintro e w' ⟨rfl, rfl⟩) | (refine (tm_no _ _ (by omega)).mono ?_; rintro e w' ⟨rfl, rfl⟩)))
      clear hv
      go_cut [8] from 27 to 35 (fun u8 wx => ∃ (T : Nat) (v : Value), u8 = .pointer (some ⟨T, 0, none⟩) ∧ ∃ j1 : Ex k.v, wx = j1.v ∧ Bld k.v.heap.size T nm v (cutP l f u 0) j1.v)
      case first =>
        go_region_held3 (fun W => W.cell? ⟨w.heap.size, 0, none⟩ = some (.string nm) ∧ W.cell? ⟨w.heap.size, 1, none⟩ = some (.slice A l.length c)) ((refine ⟨?_, ?_⟩ <;> simp [go_sem])) (((go_at_call 74; (with_reducible refine (atN_any _ l.length _ l _ _ ?_ rfl HK.out ?_ (H0.out)).mono ?_); (· infer_instance); (· omega); rintro e w' ⟨rfl, k8, rfl⟩)))
        all_goals
          go_wp2_with fail
          go_meet
          first | (refine ⟨_, (.slice (some ⟨k8.v.heap.size, 0, none⟩) 1 1), rfl, ex_and (fun W => Bld k.v.heap.size _ nm (.slice (some ⟨k8.v.heap.size, 0, none⟩) 1 1) (cutP l f u 0) W) (by first | ((refine Ok.toEx ?_; (repeat (first | (with_reducible exact Ok.rf _) | (with_reducible refine Ok.alloc ?_ _) | (with_reducible refine Ok.ex ?_ _) | (with_reducible refine Ok.drew ?_) | (with_reducible refine Ok.setCellI ?_ _ _ _) | (with_reducible refine Ok.exb ?_ _)))); done) | fail) ?_⟩; rw [HP0.out]; refine ⟨?_, ?_, ?_, ?_, ?_, ?_, ⟨?_, ?_⟩⟩; (· infer_instance); (· exact LeB.h); (· simp [go_sem]; done); (· simp [go_sem]; done); (· simp [go_sem]; done); (· simp [go_sem]; done); (· exact owns_full (f := kC) (fun _ => rfl) (by omega) [(⟨0, V0⟩ : Ky)] (rowF_h (b := k8.v.heap.size)) LeB.h rfl (by simp [maxLen]) (one_row 0 V0)); (· intro h; have h : k8.v.heap.size = _ := Option.some.inj h; first | omega | exact NeB.h (a := k8.v.heap.size) h)) | (refine ⟨_, (.slice (some ⟨k8.v.heap.size + 1, 0, none⟩) 1 1), rfl, ex_and (fun W => Bld k.v.heap.size _ nm (.slice (some ⟨k8.v.heap.size + 1, 0, none⟩) 1 1) (cutP l f u 0) W) (by first | ((refine Ok.toEx ?_; (repeat (first | (with_reducible exact Ok.rf _) | (with_reducible refine Ok.alloc ?_ _) | (with_reducible refine Ok.ex ?_ _) | (with_reducible refine Ok.drew ?_) | (with_reducible refine Ok.setCellI ?_ _ _ _) | (with_reducible refine Ok.exb ?_ _)))); done) | fail) ?_⟩; rw [HP0.out]; refine ⟨?_, ?_, ?_, ?_, ?_, ?_, ⟨?_, ?_⟩⟩; (· infer_instance); (· exact LeB.h); (· simp [go_sem]; done); (· simp [go_sem]; done); (· simp [go_sem]; done); (· simp [go_sem]; done); (· exact owns_full (f := kC) (fun _ => rfl) (by omega) [(⟨0, V0⟩ : Ky)] (rowF_h (b := k8.v.heap.size + 1)) LeB.h rfl (by simp [maxLen]) (one_row 0 V0)); (· intro h; have h : k8.v.heap.size + 1 = _ := Option.some.inj h; first | omega | exact NeB.h (a := k8.v.heap.size + 1) h))
      case rest =>
        obtain ⟨T, v0, rfl, j1, rfl, hB0⟩ := hcut
        have HB0 := hid hB0
        have hTk := hB0.ge
        clear hB0
        haveI hleT : LeB k.v.heap.size T := ⟨hTk⟩
        go_wp2
        go_loopw [9] (fun t wr => ∃ q : Nat, q ≤ l.length ∧ t = .int .i64 q ∧ ∃ v, ∃ j : Ex k.v, wr = j.v ∧ Bld k.v.heap.size T nm v (cutP l f u q) j.v) (fun t _ => l.length - (intOf t).toNat)
        case atStart => exact ⟨0, Nat.zero_le _, rfl, v0, j1, rfl, HB0.out⟩
        case round =>
          obtain ⟨qq, hq, rfl, v, j0, rfl, hBd⟩ := hrel
          have hln := cutP_len l f u qq
          have hlt1 := hBd.lt
          have x0 := hBd.c0
          have x1 := hBd.c1
          have x2 := hBd.f0
          have x3 := hBd.f1
          haveI hot := hBd.own
          haveI hBi := hBd
          clear hBd
          obtain ⟨A1, c1, rfl, -, -⟩ := Ow.of_row (f := kC) (fun _ => rfl) hot.own
          by_cases hlt : qq < l.length
          · obtain ⟨b', o, rfl, hbw, hc'⟩ := HA.out (by omega)
            obtain ⟨c0, c1'⟩ := hc' qq hlt
            clear hc'
            obtain ⟨hx1, hx2⟩ := (HK.out.kg qq hlt).1
            have hz1 : (0 : Int) ≤ (qq : Int) := by omega
            have hz2 : (qq : Int) < (l.length : Int) := by omega
            by_cases h1 : f < (kyG l qq).t
            · by_cases h2 : (kyG l qq).t < u
              · have HU := hid (cutP_on h1 h2)
                generalize kyG l qq = x at *
                have hz3 : IntKind.i64.wrap (x.t - f) = x.t - f := IntWalk.i64_in _ (by omega)
                go_wp2_with (fail)
                go_region_law ((refine step_appZ kC rfl (.tmp 62) (.tmp 78) 27 rfl k.v.heap.size ?_ 63 (.agg #[.int .i64 0, .int .i64 0]) 2 16 Try.underlying27 infoKey rfl (by omega) (fun _ => ⟨rfl, by simp [kC, Value.oneCell']⟩) (.slice A1 (cutP l f u qq).length c1) (cutP l f u qq) (by simp [Act.eval, Act.put]) ?_ ((⟨x.t - f, x.v⟩ : Ky)) _ _ rfl (cellsB ?_) ?_ ?_ ?_; (· exact LeB.h); (· exact owT_h (T := T)); (· simp); (· omega); (· omega); intro v' k' hA; obtain ⟨A2, c2, rfl, hO2, hF2⟩ := Ow.of_row (f := kC) (fun _ => rfl) hA.own; have hB2 := (fun h => Bld.app (T := T) (nm := nm) (l := cutP l f u qq) h hA) inferInstance; have z1 : k'.v.cell? ⟨T, 1, none⟩ = some (.slice A1 (cutP l f u qq).length c1) := (World.cell?_of_block (a := ⟨T, 1, none⟩) (hA.keep T LtW.h hot.ne)).trans (by simp [go_sem, x1]); have z2 : k'.v.frozen? ⟨T, 1, none⟩ = false := (fz_block (hA.keep T LtW.h hot.ne)).trans (by simp [go_sem, x3]); have z0 : k'.v.cell? ⟨T, 0, none⟩ = some (.string nm) := (World.cell?_of_block (a := ⟨T, 0, none⟩) (hA.keep T LtW.h hot.ne)).trans (by simp [go_sem, x0]); have HO2 := hid hO2; have HF2 := hid hF2; clear hA hO2 hF2))
                all_goals
                  go_wp2
                  go_roundw
                  case rel => exact ⟨qq + 1, by omega, by go_num, _, ex_and (fun W => Bld k.v.heap.size T nm _ (cutP l f u (qq + 1)) W) (by (refine Ok.toEx ?_; (repeat (first | (with_reducible exact Ok.rf _) | (with_reducible refine Ok.alloc ?_ _) | (with_reducible refine Ok.ex ?_ _) | (with_reducible refine Ok.drew ?_) | (with_reducible refine Ok.setCellI ?_ _ _ _) | (with_reducible refine Ok.exb ?_ _))))) (by rw [HU.out]; simp only [List.length_append, List.length_singleton] at hB2 ⊢; exact hB2)⟩
                  case measure => simp [intOf]; omega
              · have HU := hid (cutP_off (f := f) (u := u) (l := l) (k := qq) (fun h => h2 h.2))
                generalize kyG l qq = x at *
                go_wp2
                go_roundw
                case rel => exact ⟨qq + 1, by omega, by go_num, _, j0, rfl, by rw [HU.out]; exact hBi⟩
                case measure => simp [intOf]; omega
            · have HU := hid (cutP_off (f := f) (u := u) (l := l) (k := qq) (fun h => h1 h.1))
              generalize kyG l qq = x at *
              go_wp2
              go_roundw
              case rel => exact ⟨qq + 1, by omega, by go_num, _, j0, rfl, by rw [HU.out]; exact hBi⟩
              case measure => simp [intOf]; omega
          · obtain rfl : qq = l.length := by omega
            have hkw := (inferInstance : LtW (w.heap.size + 1) k.v).h
            haveI hleW : LeB w.heap.size T := ⟨by omega⟩
            have HL9 : Hid ((cutA l f u).length = (cutP l f u l.length).length + 1) := hid (by unfold cutA; rw [List.length_append]; rfl)
            have hz3 : IntKind.i64.wrap (u - f) = u - f := IntWalk.i64_in _ (by omega)
            by_cases hfl : 24 < (cutA l f u).length
            · have HR := hid (HFull.out hfl)
              rw [HL9.out] at hfl
              have hfi : (24 : Int) < ((cutP l f u l.length).length : Int) + 1 := by omega
              go_wp2_with (fail)
              go_region_law (first | (refine step_appZ kC rfl (.tmp 82) (.tmp 91) 27 rfl k.v.heap.size ?_ 63 (.agg #[.int .i64 0, .int .i64 0]) 2 16 Try.underlying27 infoKey rfl (by omega) (fun _ => ⟨rfl, by simp [kC, Value.oneCell']⟩) (.slice A1 (cutP l f u l.length).length c1) (cutP l f u l.length) (by simp [Act.eval, Act.put]) ?_ ((⟨u - f, V1⟩ : Ky)) _ _ rfl (cellsB ?_) ?_ ?_ ?_; (· exact LeB.h); (· exact owT_h (T := T)); (· simp); (· omega); (· omega); intro v' k' hA; obtain ⟨A2, c2, rfl, hO2, hF2⟩ := Ow.of_row (f := kC) (fun _ => rfl) hA.own; have hB2 := (fun h => Bld.app (T := T) (nm := nm) (l := cutP l f u l.length) h hA) inferInstance; have z1 : k'.v.cell? ⟨T, 1, none⟩ = some (.slice A1 (cutP l f u l.length).length c1) := (World.cell?_of_block (a := ⟨T, 1, none⟩) (hA.keep T LtW.h hot.ne)).trans (by simp [go_sem, x1]); have z2 : k'.v.frozen? ⟨T, 1, none⟩ = false := (fz_block (hA.keep T LtW.h hot.ne)).trans (by simp [go_sem, x3]); have z0 : k'.v.cell? ⟨T, 0, none⟩ = some (.string nm) := (World.cell?_of_block (a := ⟨T, 0, none⟩) (hA.keep T LtW.h hot.ne)).trans (by simp [go_sem, x0]); have HO2 := hid hO2; have HF2 := hid hF2; clear hA hO2 hF2) | (go_simp; (go_at_call 74; (with_reducible refine (atN_any _ l.length _ l _ _ ?_ rfl HK.out ?_ (H1.out)).mono ?_); (· infer_instance); (· omega); rintro e w' ⟨rfl, k8, rfl⟩)))
              all_goals
                go_wp2
                (refine bodyPost_ret (v := _) (by first | (simp [results, Try.results45, go_sem]; done) | (simp [results, Try.results45, go_sem]; rfl)) rfl ?_; rw [HR.out]; refine trPost_err (by rfl) ?_; (refine Ok.toEx ?_; (repeat (first | (with_reducible exact Ok.rf _) | (with_reducible refine Ok.alloc ?_ _) | (with_reducible refine Ok.ex ?_ _) | (with_reducible refine Ok.drew ?_) | (with_reducible refine Ok.setCellI ?_ _ _ _) | (with_reducible refine Ok.exb ?_ _)))))
            · have HR := hid (HGo.out hfl)
              rw [HL9.out] at hfl
              have hfi : ¬ (24 : Int) < ((cutP l f u l.length).length : Int) + 1 := by omega
              go_wp2_with (fail)
              go_region_law (first | (refine step_appZ kC rfl (.tmp 82) (.tmp 91) 27 rfl k.v.heap.size ?_ 63 (.agg #[.int .i64 0, .int .i64 0]) 2 16 Try.underlying27 infoKey rfl (by omega) (fun _ => ⟨rfl, by simp [kC, Value.oneCell']⟩) (.slice A1 (cutP l f u l.length).length c1) (cutP l f u l.length) (by simp [Act.eval, Act.put]) ?_ ((⟨u - f, V1⟩ : Ky)) _ _ rfl (cellsB ?_) ?_ ?_ ?_; (· exact LeB.h); (· exact owT_h (T := T)); (· simp); (· omega); (· omega); intro v' k' hA; obtain ⟨A2, c2, rfl, hO2, hF2⟩ := Ow.of_row (f := kC) (fun _ => rfl) hA.own; have hB2 := (fun h => Bld.app (T := T) (nm := nm) (l := cutP l f u l.length) h hA) inferInstance; have z1 : k'.v.cell? ⟨T, 1, none⟩ = some (.slice A1 (cutP l f u l.length).length c1) := (World.cell?_of_block (a := ⟨T, 1, none⟩) (hA.keep T LtW.h hot.ne)).trans (by simp [go_sem, x1]); have z2 : k'.v.frozen? ⟨T, 1, none⟩ = false := (fz_block (hA.keep T LtW.h hot.ne)).trans (by simp [go_sem, x3]); have z0 : k'.v.cell? ⟨T, 0, none⟩ = some (.string nm) := (World.cell?_of_block (a := ⟨T, 0, none⟩) (hA.keep T LtW.h hot.ne)).trans (by simp [go_sem, x0]); have HO2 := hid hO2; have HF2 := hid hF2; clear hA hO2 hF2) | (go_simp; (go_at_call 74; (with_reducible refine (atN_any _ l.length _ l _ _ ?_ rfl HK.out ?_ (H1.out)).mono ?_); (· infer_instance); (· omega); rintro e w' ⟨rfl, k8, rfl⟩)))
              all_goals
                go_wp2
                obtain ⟨g, rfl, hw9⟩ := HO2.out.own (by simp)
                have hg := HF2.out _ _ _ rfl
                haveI : NeB (w.heap.size + 1) g := ⟨by omega⟩
                haveI : NeB T g := ⟨fun h => hB2.own.ne (by rw [h]; rfl)⟩
                rw [HA1.out] at hw9
                refine bodyPost_ret (v := _) (by first | (simp [results, Try.results45, go_sem]; done) | (simp [results, Try.results45, go_sem]; rfl)) rfl ?_
                rw [HR.out]
                refine trPostN_ok HL9.out (by rfl) ?_ (by infer_instance) ⟨by omega⟩
                (refine Ok.toEx ?_; (repeat (first | (with_reducible exact Ok.rf _) | (with_reducible refine Ok.alloc ?_ _) | (with_reducible refine Ok.ex ?_ _) | (with_reducible refine Ok.drew ?_) | (with_reducible refine Ok.setCellI ?_ _ _ _) | (with_reducible refine Ok.exb ?_ _))))
end
end Go.Proofs.Ytamajnhbfdakfaa
