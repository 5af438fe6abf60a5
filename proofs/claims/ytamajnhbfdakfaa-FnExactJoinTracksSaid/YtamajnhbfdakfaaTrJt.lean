/-
  JoinTracks of the specification. Conditions: those typed at each theorem.
-/
import Derived.Test.YtamajnhbfdakfaaTrJs
import Derived.Test.YtamajnhbfdakfaaHeldT
namespace Go.Proofs.Ytamajnhbfdakfaa
open Go.RowKit
section
set_option maxHeartbeats 6400000
set_option maxRecDepth 20000
theorem sJoin_any (n1 : ByteArray) (A : Option Addr) (c1 : Nat) (a : List Ky) (n2 : ByteArray) (B : Option Addr) (c2 : Nat) (b : List Ky) (gap : Int) (w : World) [hl1 : Rd 2 kC w A a] [hl2 : Rd 2 kC w B b] (hs1 : n1.size ≤ maxLen) (hn1 : a.length ≤ 1048576) (hs2 : n2.size ≤ maxLen) (hn2 : b.length ≤ 1048576) :
    Calls Try.prog 43 #[.agg #[.string n1, .slice A a.length c1], .agg #[.string n2, .slice B b.length c2], .int .i64 gap] w (TrPost (joinR n1 a n2 b gap) w) := by
  cases hv1 : vT n1 a
  · have HR := hid (joinR_inv (gap := gap) (n2 := n2) (b := b) (.inl hv1))
    go_enter Try.func43, Try.ntmps43
    go_wp2_with ((first | (go_at_call 64; (refine (one_any n1 A c1 a _ _ hs1 hn1 ?_ ?_).mono ?_); (· simp [go_sem]); (· simp [go_sem]); rw [hv1]; rintro e w' ⟨rfl, k, rfl⟩) | (go_at_call 64; (refine (one_any n2 B c2 b _ _ hs2 hn2 ?_ ?_).mono ?_); (· simp [go_sem]); (· simp [go_sem]); rw [hv2]; rintro e w' ⟨rfl, k, rfl⟩)))
    (refine bodyPost_ret (v := _) (by first | (simp [results, Try.results43, go_sem]; done) | (simp [results, Try.results43, go_sem]; rfl)) rfl ?_; rw [HR.out]; refine trPost_err (by rfl) ?_; (refine Ok.toEx ?_; (repeat (first | (with_reducible exact Ok.rf _) | (with_reducible refine Ok.alloc ?_ _) | (with_reducible refine Ok.ex ?_ _) | (with_reducible refine Ok.drew ?_) | (with_reducible refine Ok.setCellI ?_ _ _ _) | (with_reducible refine Ok.exb ?_ _)))))
  · cases hv2 : vT n2 b
    · have HR := hid (joinR_inv (gap := gap) (n1 := n1) (a := a) (.inr hv2))
      go_enter Try.func43, Try.ntmps43
      go_wp2_with ((first | (go_at_call 64; (refine (one_any n1 A c1 a _ _ hs1 hn1 ?_ ?_).mono ?_); (· simp [go_sem]); (· simp [go_sem]); rw [hv1]; rintro e w' ⟨rfl, k, rfl⟩) | (go_at_call 64; (refine (one_any n2 B c2 b _ _ hs2 hn2 ?_ ?_).mono ?_); (· simp [go_sem]); (· simp [go_sem]); rw [hv2]; rintro e w' ⟨rfl, k, rfl⟩)))
      (refine bodyPost_ret (v := _) (by first | (simp [results, Try.results43, go_sem]; done) | (simp [results, Try.results43, go_sem]; rfl)) rfl ?_; rw [HR.out]; refine trPost_err (by rfl) ?_; (refine Ok.toEx ?_; (repeat (first | (with_reducible exact Ok.rf _) | (with_reducible refine Ok.alloc ?_ _) | (with_reducible refine Ok.ex ?_ _) | (with_reducible refine Ok.drew ?_) | (with_reducible refine Ok.setCellI ?_ _ _ _) | (with_reducible refine Ok.exb ?_ _)))))
    · by_cases hd : 1 ≤ gap ∧ gap ≤ 7200000
      rotate_left
      · have HR := hid (joinR_rng hv1 hv2 hd)
        have hd : gap < 1 ∨ 7200000 < gap := by omega
        go_enter Try.func43, Try.ntmps43
        go_wp2_with (first | (first | (go_at_call 64; (refine (one_any n1 A c1 a _ _ hs1 hn1 ?_ ?_).mono ?_); (· simp [go_sem]); (· simp [go_sem]); rw [hv1]; rintro e w' ⟨rfl, k, rfl⟩) | (go_at_call 64; (refine (one_any n2 B c2 b _ _ hs2 hn2 ?_ ?_).mono ?_); (· simp [go_sem]); (· simp [go_sem]); rw [hv2]; rintro e w' ⟨rfl, k, rfl⟩)) | (go_at_call 76; first | (refine (in_yes _ _ _ _ (by omega) (by omega)).mono ?_; rintro e w' ⟨rfl, rfl⟩) | (refine (in_no _ _ _ _ (by omega)).mono ?_; rintro e w' ⟨rfl, rfl⟩)))
        (refine bodyPost_ret (v := _) (by first | (simp [results, Try.results43, go_sem]; done) | (simp [results, Try.results43, go_sem]; rfl)) rfl ?_; rw [HR.out]; refine trPost_err (by rfl) ?_; (refine Ok.toEx ?_; (repeat (first | (with_reducible exact Ok.rf _) | (with_reducible refine Ok.alloc ?_ _) | (with_reducible refine Ok.ex ?_ _) | (with_reducible refine Ok.drew ?_) | (with_reducible refine Ok.setCellI ?_ _ _ _) | (with_reducible refine Ok.exb ?_ _)))))
      · by_cases hfl : 24 < a.length + b.length
        · have HR := hid (joinR_full hv1 hv2 hd hfl)
          obtain ⟨hd1, hd2⟩ := hd
          have hfi : (24 : Int) < (a.length : Int) + (b.length : Int) := by omega
          go_enter Try.func43, Try.ntmps43
          go_wp2_with (first | (first | (go_at_call 64; (refine (one_any n1 A c1 a _ _ hs1 hn1 ?_ ?_).mono ?_); (· simp [go_sem]); (· simp [go_sem]); rw [hv1]; rintro e w' ⟨rfl, k, rfl⟩) | (go_at_call 64; (refine (one_any n2 B c2 b _ _ hs2 hn2 ?_ ?_).mono ?_); (· simp [go_sem]); (· simp [go_sem]); rw [hv2]; rintro e w' ⟨rfl, k, rfl⟩)) | (go_at_call 76; first | (refine (in_yes _ _ _ _ (by omega) (by omega)).mono ?_; rintro e w' ⟨rfl, rfl⟩) | (refine (in_no _ _ _ _ (by omega)).mono ?_; rintro e w' ⟨rfl, rfl⟩)))
          (refine bodyPost_ret (v := _) (by first | (simp [results, Try.results43, go_sem]; done) | (simp [results, Try.results43, go_sem]; rfl)) rfl ?_; rw [HR.out]; refine trPost_err (by rfl) ?_; (refine Ok.toEx ?_; (repeat (first | (with_reducible exact Ok.rf _) | (with_reducible refine Ok.alloc ?_ _) | (with_reducible refine Ok.ex ?_ _) | (with_reducible refine Ok.drew ?_) | (with_reducible refine Ok.setCellI ?_ _ _ _) | (with_reducible refine Ok.exb ?_ _)))))
        · have HR0 := hid (joinR_go hv1 hv2 hd hfl)
          have hk1 := (vT_of hv1).2.vk
          have hk2 := (vT_of hv2).2.vk
          obtain ⟨ha1, ha2⟩ := hk1.n
          obtain ⟨hb1, hb2⟩ := hk2.n
          obtain ⟨p, hp⟩ : ∃ p, a.length = p + 1 := ⟨a.length - 1, by omega⟩
          have HJ := joinBy_at (b := b) hp gap
          obtain ⟨ba, oa, rfl, hba, hca⟩ := hl1.kg (by omega)
          obtain ⟨bb, ob, rfl, hbb, hcb⟩ := hl2.kg (by omega)
          have HCB := hid hcb
          obtain ⟨ca0, -⟩ := hca p (by omega)
          obtain ⟨cb0, -⟩ := hcb 0 (by omega)
          clear hca hcb
          have HK2 := hid hk2
          obtain ⟨⟨ta1, ta2⟩, -⟩ := hk1.kg p (by omega)
          obtain ⟨⟨tb1, tb2⟩, -⟩ := hk2.kg 0 (by omega)
          clear hk1 hk2
          obtain ⟨hd1, hd2⟩ := hd
          have hfi : ¬ (24 : Int) < (a.length : Int) + (b.length : Int) := by omega
          have hpi : (a.length : Int) - 1 = (p : Int) := by omega
          have hpl : (p : Int) < (a.length : Int) := by omega
          generalize (kyG a p).t = ta at *
          generalize hTb : (kyG b 0).t = tb at *
          have HTb := hid hTb
          clear hTb
          have HR : Hid (joinR n1 a n2 b gap = trChk n1 (jnP a b (ta + gap) tb b.length)) := hid (by rw [HR0.out, jnP_end a b (ta + gap) tb _ HJ])
          clear HR0 HJ
          have HP := hid hp
          clear hp
          have hb0 : (0 : Int) < (b.length : Int) := by omega
          have hbn : b ≠ [] := by rintro rfl; simp at hb1
          have hbN : 0 < b.length := by omega
          simp only [Nat.zero_mul, Nat.add_zero] at cb0
          have hz1 : IntKind.i64.wrap (p : Int) = p := IntWalk.i64_in _ (by omega)
          have hz2 : IntKind.i64.wrap (ta + gap) = ta + gap := IntWalk.i64_in _ (by omega)
          have hLE := jnP_len a b (ta + gap) tb b.length
          have HLE := hid hLE
          clear hLE
          go_enter Try.func43, Try.ntmps43
          go_wp2_with (first | (first | (go_at_call 64; (refine (one_any n1 (some ⟨ba, oa, none⟩) c1 a _ _ hs1 hn1 ?_ ?_).mono ?_); (· simp [go_sem]); (· simp [go_sem]); rw [hv1]; rintro e w' ⟨rfl, k, rfl⟩) | (go_at_call 64; (refine (one_any n2 (some ⟨bb, ob, none⟩) c2 b _ _ hs2 hn2 ?_ ?_).mono ?_); (· simp [go_sem]); (· simp [go_sem]); rw [hv2]; rintro e w' ⟨rfl, k, rfl⟩)) | (go_at_call 76; first | (refine (in_yes _ _ _ _ (by omega) (by omega)).mono ?_; rintro e w' ⟨rfl, rfl⟩) | (refine (in_no _ _ _ _ (by omega)).mono ?_; rintro e w' ⟨rfl, rfl⟩)) | (go_at_call 77; (with_reducible refine (own_row n1 (some ⟨ba, oa, none⟩) c1 a _ _ ?_ ?_ ?_ ?_).mono ?_); (· omega); (· omega); (· simp [go_sem]); (· simp [go_sem]); rintro e w' ⟨g, c9, rfl, k9, rfl, hrow9⟩))
          have hgl := (hrow9.lt g rfl).2
          have HB0 : Hid (Bld k.v.heap.size k9.v.heap.size n1 (.slice (some ⟨g, 0, none⟩) a.length c9) (jnP a b (ta + gap) tb 0) (k9.v.alloc (.cells #[.string n1, .slice (some ⟨g, 0, none⟩) a.length c9] 29))) := hid ⟨inferInstance, LeB.h, by simp [go_sem], by simp [go_sem], by simp [go_sem], by simp [go_sem], ⟨hrow9.alloc _, own_ne hrow9 (Nat.le_refl _)⟩⟩
          haveI hleT : LeB k.v.heap.size k9.v.heap.size := inferInstance
          have hTk := hleT.h
          obtain ⟨j1, hj1⟩ : ∃ j1 : Ex k.v, k9.v.alloc (.cells #[.string n1, .slice (some ⟨g, 0, none⟩) a.length c9] 29) = j1.v := by (refine Ok.toEx ?_; (repeat (first | (with_reducible exact Ok.rf _) | (with_reducible refine Ok.alloc ?_ _) | (with_reducible refine Ok.ex ?_ _) | (with_reducible refine Ok.drew ?_) | (with_reducible refine Ok.setCellI ?_ _ _ _) | (with_reducible refine Ok.exb ?_ _))))
          rw [hj1] at HB0
          rw [hj1]
          clear hj1 hrow9 hgl
          generalize k9.v.heap.size = T at *
          go_loopw [10] (fun t wr => ∃ q : Nat, q ≤ b.length ∧ t = .int .i64 q ∧ ∃ v, ∃ j : Ex k.v, wr = j.v ∧ Bld k.v.heap.size T n1 v (jnP a b (ta + gap) tb q) j.v) (fun t _ => b.length - (intOf t).toNat)
          case atStart => exact ⟨0, Nat.zero_le _, rfl, _, j1, rfl, HB0.out⟩
          case round =>
            obtain ⟨qq, hq, rfl, v, j0, rfl, hBd⟩ := hrel
            have hln := jnP_len a b (ta + gap) tb qq
            have HLN := hid hln
            have hlb : (jnP a b (ta + gap) tb qq).length ≤ 48 := by omega
            clear hln
            have hlt1 := hBd.lt
            have x0 := hBd.c0
            have x1 := hBd.c1
            have x2 := hBd.f0
            have x3 := hBd.f1
            haveI hot := hBd.own
            haveI hBi := hBd
            clear hBd
            obtain ⟨A1, d1, rfl, hO1, hF1⟩ := Ow.of_row (f := kC) (fun _ => rfl) hot.own
            by_cases hlt : qq < b.length
            · clear hO1 hF1
              obtain ⟨d0, d1'⟩ := HCB.out qq hlt
              obtain ⟨hx1, hx2⟩ := (HK2.out.kg qq hlt).1
              have hz4 : (0 : Int) ≤ (qq : Int) := by omega
              have hz5 : (qq : Int) < (b.length : Int) := by omega
              have HU : Hid (jnP a b (ta + gap) tb (qq + 1) = jnP a b (ta + gap) tb qq ++ [⟨ta + gap + (kyG b qq).t - tb, (kyG b qq).v⟩]) := hid rfl
              generalize kyG b qq = x at *
              have hz6 : IntKind.i64.wrap (ta + gap + x.t) = ta + gap + x.t := IntWalk.i64_in _ (by omega)
              have hz7 : IntKind.i64.wrap (ta + gap + x.t - tb) = ta + gap + x.t - tb := IntWalk.i64_in _ (by omega)
              go_wp2_with (fail)
              refine wp_region_T (fun W => W.cell? ⟨T, 1, none⟩ = some (.slice A1 (jnP a b (ta + gap) tb qq).length d1) ∧ W.cell? ⟨w.heap.size + 1, 1, none⟩ = some (.slice (some ⟨bb, ob, none⟩) b.length c2) ∧ W.cell? ⟨bb, ob, none⟩ = some (.int .i64 tb) ∧ W.cell? ⟨bb, ob + qq * 2, none⟩ = some (.int .i64 x.t) ∧ W.cell? ⟨bb, ob + qq * 2 + 1, none⟩ = some (.int .i64 x.v)) 26 (by kernel_rfl) ?_ (fun hHeld => ?_)
              · refine ⟨?_, ?_, ?_, ?_, ?_⟩ <;> simp [go_sem, x1, d0, d1', cb0]
              (refine wpAnyT_takeL (i := 0) (v := ?v0) rfl (by kernel_rfl) (by kernel_rfl) (by kernel_rfl) (by kernel_rfl) (by kernel_rfl) (by kernel_rfl) (fun _ _ _ h => h) (Or.inl ⟨by rfl, ?hy0⟩) (by assumption) ?rest0; (case hy0 => (intro w hSw; (try dsimp only at hSw); go_simp; (try (with_reducible rfl)))); (try simp only [Act.put, List.setIfInBounds_toArray, List.set_cons_zero, List.set_cons_succ]))
              (refine wpAnyT_takeL (i := 1) (v := ?v1) rfl (by kernel_rfl) (by kernel_rfl) (by kernel_rfl) (by kernel_rfl) (by kernel_rfl) (by kernel_rfl) (fun _ _ _ h => h) (Or.inl ⟨by rfl, ?hy1⟩) (by assumption) ?rest1; (case hy1 => (intro w hSw; (try dsimp only at hSw); go_simp; (try (with_reducible rfl)))); (try simp only [Act.put, List.setIfInBounds_toArray, List.set_cons_zero, List.set_cons_succ]))
              (refine wpAnyT_takeL (i := 2) (v := ?v2) rfl (by kernel_rfl) (by kernel_rfl) (by kernel_rfl) (by kernel_rfl) (by kernel_rfl) (by kernel_rfl) (fun _ _ _ h => h) (Or.inl ⟨by rfl, ?hy2⟩) (by assumption) ?rest2; (case hy2 => (intro w hSw; (try dsimp only at hSw); go_simp; (try (with_reducible rfl)))); (try simp only [Act.put, List.setIfInBounds_toArray, List.set_cons_zero, List.set_cons_succ]))
              (refine wpAnyT_takeL (i := 3) (v := ?v3) rfl (by kernel_rfl) (by kernel_rfl) (by kernel_rfl) (by kernel_rfl) (by kernel_rfl) (by kernel_rfl) (fun _ _ _ h => h) (Or.inl ⟨by rfl, ?hy3⟩) (by assumption) ?rest3; (case hy3 => (intro w hSw; (try dsimp only at hSw); go_simp; (try (with_reducible rfl)))); (try simp only [Act.put, List.setIfInBounds_toArray, List.set_cons_zero, List.set_cons_succ]))
              (refine wpAnyT_takeL (i := 4) (v := ?v4) rfl (by kernel_rfl) (by kernel_rfl) (by kernel_rfl) (by kernel_rfl) (by kernel_rfl) (by kernel_rfl) (fun _ _ _ h => h) (Or.inl ⟨by rfl, ?hy4⟩) (by assumption) ?rest4; (case hy4 => (intro w hSw; (try dsimp only at hSw); go_simp; (try (with_reducible rfl)))); (try simp only [Act.put, List.setIfInBounds_toArray, List.set_cons_zero, List.set_cons_succ]))
              (refine wpAnyT_takeL (i := 5) (v := ?v5) rfl (by kernel_rfl) (by kernel_rfl) (by kernel_rfl) (by kernel_rfl) (by kernel_rfl) (by kernel_rfl) (fun _ _ _ h => h) (Or.inl ⟨by rfl, ?hy5⟩) (by assumption) ?rest5; (case hy5 => (intro w hSw; (try dsimp only at hSw); go_simp; (try (with_reducible rfl)))); (try simp only [Act.put, List.setIfInBounds_toArray, List.set_cons_zero, List.set_cons_succ]))
              (refine wpAnyT_takeL (i := 6) (v := ?v6) rfl (by kernel_rfl) (by kernel_rfl) (by kernel_rfl) (by kernel_rfl) (by kernel_rfl) (by kernel_rfl) (fun _ _ _ h => h) (Or.inl ⟨by rfl, ?hy6⟩) (by assumption) ?rest6; (case hy6 => (intro w hSw; (try dsimp only at hSw); go_simp; (try (with_reducible rfl)))); (try simp only [Act.put, List.setIfInBounds_toArray, List.set_cons_zero, List.set_cons_succ]))
              (refine wpAnyT_takeL (i := 7) (v := ?v7) rfl (by kernel_rfl) (by kernel_rfl) (by kernel_rfl) (by kernel_rfl) (by kernel_rfl) (by kernel_rfl) (fun _ _ _ h => h) (Or.inl ⟨by rfl, ?hy7⟩) (by assumption) ?rest7; (case hy7 => (intro w hSw; (try dsimp only at hSw); go_simp; (try (with_reducible rfl)))); (try simp only [Act.put, List.setIfInBounds_toArray, List.set_cons_zero, List.set_cons_succ]))
              (refine wpAnyT_takeL (i := 8) (v := ?v8) rfl (by kernel_rfl) (by kernel_rfl) (by kernel_rfl) (by kernel_rfl) (by kernel_rfl) (by kernel_rfl) (fun _ _ _ h => h) (Or.inl ⟨by rfl, ?hy8⟩) (by assumption) ?rest8; (case hy8 => (intro w hSw; (try dsimp only at hSw); go_simp; (try (with_reducible rfl)))); (try simp only [Act.put, List.setIfInBounds_toArray, List.set_cons_zero, List.set_cons_succ]))
              (refine wpAnyT_takeL (i := 9) (v := ?v9) rfl (by kernel_rfl) (by kernel_rfl) (by kernel_rfl) (by kernel_rfl) (by kernel_rfl) (by kernel_rfl) (fun _ _ _ h => h) (Or.inl ⟨by rfl, ?hy9⟩) (by assumption) ?rest9; (case hy9 => (intro w hSw; (try dsimp only at hSw); go_simp; (try (with_reducible rfl)))); (try simp only [Act.put, List.setIfInBounds_toArray, List.set_cons_zero, List.set_cons_succ]))
              (refine wpAnyT_takeL (i := 10) (v := ?v10) rfl (by kernel_rfl) (by kernel_rfl) (by kernel_rfl) (by kernel_rfl) (by kernel_rfl) (by kernel_rfl) (fun _ _ _ h => h) (Or.inl ⟨by rfl, ?hy10⟩) (by assumption) ?rest10; (case hy10 => (intro w hSw; (try dsimp only at hSw); go_simp; (try (with_reducible rfl)))); (try simp only [Act.put, List.setIfInBounds_toArray, List.set_cons_zero, List.set_cons_succ]))
              (refine wpAnyT_takeL (i := 11) (v := ?v11) rfl (by kernel_rfl) (by kernel_rfl) (by kernel_rfl) (by kernel_rfl) (by kernel_rfl) (by kernel_rfl) (fun _ _ _ h => h) (Or.inl ⟨by rfl, ?hy11⟩) (by assumption) ?rest11; (case hy11 => (intro w hSw; (try dsimp only at hSw); go_simp; (try (with_reducible rfl)))); (try simp only [Act.put, List.setIfInBounds_toArray, List.set_cons_zero, List.set_cons_succ]))
              (refine wpAnyT_takeL (i := 12) (v := ?v12) rfl (by kernel_rfl) (by kernel_rfl) (by kernel_rfl) (by kernel_rfl) (by kernel_rfl) (by kernel_rfl) (fun _ _ _ h => h) (Or.inl ⟨by rfl, ?hy12⟩) (by assumption) ?rest12; (case hy12 => (intro w hSw; (try dsimp only at hSw); go_simp; (try (with_reducible rfl)))); (try simp only [Act.put, List.setIfInBounds_toArray, List.set_cons_zero, List.set_cons_succ]))
              (refine wpAnyT_takeL (i := 13) (v := ?v13) rfl (by kernel_rfl) (by kernel_rfl) (by kernel_rfl) (by kernel_rfl) (by kernel_rfl) (by kernel_rfl) (fun _ _ _ h => h) (Or.inl ⟨by rfl, ?hy13⟩) (by assumption) ?rest13; (case hy13 => (intro w hSw; (try dsimp only at hSw); go_simp; (try (with_reducible rfl)))); (try simp only [Act.put, List.setIfInBounds_toArray, List.set_cons_zero, List.set_cons_succ]))
              (refine wpAnyT_takeL (i := 14) (v := ?v14) rfl (by kernel_rfl) (by kernel_rfl) (by kernel_rfl) (by kernel_rfl) (by kernel_rfl) (by kernel_rfl) (fun _ _ _ h => h) (Or.inl ⟨by rfl, ?hy14⟩) (by assumption) ?rest14; (case hy14 => (intro w hSw; (try dsimp only at hSw); go_simp; (try (with_reducible rfl)))); (try simp only [Act.put, List.setIfInBounds_toArray, List.set_cons_zero, List.set_cons_succ]))
              (refine wpAnyT_takeL (i := 15) (v := ?v15) rfl (by kernel_rfl) (by kernel_rfl) (by kernel_rfl) (by kernel_rfl) (by kernel_rfl) (by kernel_rfl) (fun _ _ _ h => h) (Or.inl ⟨by rfl, ?hy15⟩) (by assumption) ?rest15; (case hy15 => (intro w hSw; (try dsimp only at hSw); go_simp; (try (with_reducible rfl)))); (try simp only [Act.put, List.setIfInBounds_toArray, List.set_cons_zero, List.set_cons_succ]))
              (refine wpAnyT_takeL (i := 16) (v := ?v16) rfl (by kernel_rfl) (by kernel_rfl) (by kernel_rfl) (by kernel_rfl) (by kernel_rfl) (by kernel_rfl) (fun _ _ _ h => h) (Or.inl ⟨by rfl, ?hy16⟩) (by assumption) ?rest16; (case hy16 => (intro w hSw; (try dsimp only at hSw); go_simp; (try (with_reducible rfl)))); (try simp only [Act.put, List.setIfInBounds_toArray, List.set_cons_zero, List.set_cons_succ]))
              (refine wpAnyT_takeL (i := 17) (v := ?v17) rfl (by kernel_rfl) (by kernel_rfl) (by kernel_rfl) (by kernel_rfl) (by kernel_rfl) (by kernel_rfl) (fun _ _ _ h => h) (Or.inl ⟨by rfl, ?hy17⟩) (by assumption) ?rest17; (case hy17 => (intro w hSw; (try dsimp only at hSw); go_simp; (try (with_reducible rfl)))); (try simp only [Act.put, List.setIfInBounds_toArray, List.set_cons_zero, List.set_cons_succ]))
              (refine wpAnyT_takeL (i := 18) (v := ?v18) rfl (by kernel_rfl) (by kernel_rfl) (by kernel_rfl) (by kernel_rfl) (by kernel_rfl) (by kernel_rfl) (fun _ _ _ h => h) (Or.inl ⟨by rfl, ?hy18⟩) (by assumption) ?rest18; (case hy18 => (intro w hSw; (try dsimp only at hSw); go_simp; (try (with_reducible rfl)))); (try simp only [Act.put, List.setIfInBounds_toArray, List.set_cons_zero, List.set_cons_succ]))
              (refine wpAnyT_takeL (i := 19) (v := ?v19) rfl (by kernel_rfl) (by kernel_rfl) (by kernel_rfl) (by kernel_rfl) (by kernel_rfl) (by kernel_rfl) (fun _ _ _ h => h) (Or.inl ⟨by rfl, ?hy19⟩) (by assumption) ?rest19; (case hy19 => (intro w hSw; (try dsimp only at hSw); go_simp; (try (with_reducible rfl)))); (try simp only [Act.put, List.setIfInBounds_toArray, List.set_cons_zero, List.set_cons_succ]))
              (refine wpAnyT_takeL (i := 20) (v := ?v20) rfl (by kernel_rfl) (by kernel_rfl) (by kernel_rfl) (by kernel_rfl) (by kernel_rfl) (by kernel_rfl) (fun _ _ _ h => h) (Or.inl ⟨by rfl, ?hy20⟩) (by assumption) ?rest20; (case hy20 => (intro w hSw; (try dsimp only at hSw); go_simp; (try (with_reducible rfl)))); (try simp only [Act.put, List.setIfInBounds_toArray, List.set_cons_zero, List.set_cons_succ]))
              (refine wpAnyT_takeL (i := 21) (v := ?v21) rfl (by kernel_rfl) (by kernel_rfl) (by kernel_rfl) (by kernel_rfl) (by kernel_rfl) (by kernel_rfl) (fun _ _ _ h => h) (Or.inl ⟨by rfl, ?hy21⟩) (by assumption) ?rest21; (case hy21 => (intro w hSw; (try dsimp only at hSw); go_simp; (try (with_reducible rfl)))); (try simp only [Act.put, List.setIfInBounds_toArray, List.set_cons_zero, List.set_cons_succ]))
              (refine wpAnyT_takeL (i := 22) (v := ?v22) rfl (by kernel_rfl) (by kernel_rfl) (by kernel_rfl) (by kernel_rfl) (by kernel_rfl) (by kernel_rfl) (fun _ _ _ h => h) (Or.inl ⟨by rfl, ?hy22⟩) (by assumption) ?rest22; (case hy22 => (intro w hSw; (try dsimp only at hSw); go_simp; (try (with_reducible rfl)))); (try simp only [Act.put, List.setIfInBounds_toArray, List.set_cons_zero, List.set_cons_succ]))
              refine wpAnyT_oneL (i := 23) (by kernel_rfl) rfl (fun K hK => ?_)
              go_simp
              refine hK.out _ _ ?_ (fun hHeld => ?_)
              · refine ⟨?_, ?_, ?_, ?_, ?_⟩ <;> simp [go_sem, x1, d0, d1', cb0]
              clear hK K
              try simp only [Act.put, List.setIfInBounds_toArray, List.set_cons_zero, List.set_cons_succ]
              refine wpAnyT_oneL (i := 24) (by kernel_rfl) rfl (fun K hK => ?_)
              (refine step_appZ kC rfl (.tmp 51) (.tmp 73) 27 rfl k.v.heap.size ?_ 63 (.agg #[.int .i64 0, .int .i64 0]) 2 16 Try.underlying27 infoKey rfl (by omega) (fun _ => ⟨rfl, by simp [kC, Value.oneCell']⟩) (.slice A1 (jnP a b (ta + gap) tb qq).length d1) (jnP a b (ta + gap) tb qq) (by simp [Act.eval, Act.put]) ?_ (⟨ta + gap + x.t - tb, x.v⟩ : Ky) _ _ rfl (cellsB ?_) ?_ ?_ ?_; (· exact LeB.h); (· exact owT_h (T := T)); (· simp); (· omega); (· omega); intro v' k' hA; obtain ⟨A2, d2, rfl, hO2, hF2⟩ := Ow.of_row (f := kC) (fun _ => rfl) hA.own; have hB2 := (fun h => Bld.app (T := T) (nm := n1) (l := jnP a b (ta + gap) tb qq) h hA) inferInstance; have z1 : k'.v.cell? ⟨T, 1, none⟩ = some (.slice A1 (jnP a b (ta + gap) tb qq).length d1) := (World.cell?_of_block (a := ⟨T, 1, none⟩) (hA.keep T LtW.h hot.ne)).trans (by simp [go_sem, x1]); have z2 : k'.v.frozen? ⟨T, 1, none⟩ = false := (fz_block (hA.keep T LtW.h hot.ne)).trans (by simp [go_sem, x3]); have z0 : k'.v.cell? ⟨T, 0, none⟩ = some (.string n1) := (World.cell?_of_block (a := ⟨T, 0, none⟩) (hA.keep T LtW.h hot.ne)).trans (by simp [go_sem, x0]); have HO2 := hid hO2; have HF2 := hid hF2; clear hA hO2 hF2)
              refine hK.out _ _ ?_ (fun hHeld => ?_)
              · refine ⟨z1, ?_, ?_, ?_, ?_⟩ <;> simp [go_sem, d0, d1', cb0]
              clear hK K
              try simp only [Act.put, List.setIfInBounds_toArray, List.set_cons_zero, List.set_cons_succ]
              refine wpAnyT_oneL (i := 25) (by kernel_rfl) rfl (fun K hK => ?_)
              go_simp
              refine hK.out _ _ ?_ (fun hHeld => ?_)
              · refine ⟨z1, ?_, ?_, ?_, ?_⟩ <;> simp [go_sem, d0, d1', cb0]
              clear hK K
              try simp only [Act.put, List.setIfInBounds_toArray, List.set_cons_zero, List.set_cons_succ]
              refine wpAnyT_lastL (by kernel_rfl) rfl (by kernel_rfl) (fun K hK => ?_)
              go_simp
              refine hK.out _ _ ?_
              clear hK K
              try simp only [Act.put, List.setIfInBounds_toArray, List.set_cons_zero, List.set_cons_succ]
              go_wp2
              go_roundw
              case rel => exact ⟨qq + 1, by omega, by go_num, _, ex_and (fun W => Bld k.v.heap.size T n1 _ (jnP a b (ta + gap) tb (qq + 1)) W) (by (refine Ok.toEx ?_; (repeat (first | (with_reducible exact Ok.rf _) | (with_reducible refine Ok.alloc ?_ _) | (with_reducible refine Ok.ex ?_ _) | (with_reducible refine Ok.drew ?_) | (with_reducible refine Ok.setCellI ?_ _ _ _) | (with_reducible refine Ok.exb ?_ _))))) (by rw [HU.out]; simp only [List.length_append, List.length_singleton] at hB2 ⊢; exact hB2)⟩
              case measure => simp [intOf]; omega
            · obtain rfl : qq = b.length := by omega
              have hkw := (inferInstance : LtW (w.heap.size + 1 + 1) k.v).h
              have hal : 1 ≤ (jnP a b (ta + gap) tb b.length).length := by rw [HLE.out]; omega
              obtain ⟨g, rfl, hw9⟩ := hO1.own hal
              have hg := hF1 _ _ _ rfl
              haveI : NeB (w.heap.size + 1 + 1) g := ⟨by omega⟩
              cases hv3 : vT n1 (jnP a b (ta + gap) tb b.length)
              · have HR2 := hid (trChk_no hv3)
                go_wp2_with (go_at_call 78; (with_reducible refine (doneN_no n1 _ _ _ (jnP a b (ta + gap) tb b.length) _ ?_ rfl hs1 ?_ hv3).mono ?_); (· infer_instance); (· omega); rintro e w' ⟨rfl, k8, rfl⟩)
                (refine bodyPost_ret (v := _) (by first | (simp [results, Try.results43, go_sem]; done) | (simp [results, Try.results43, go_sem]; rfl)) rfl ?_; rw [(by rw [HR.out, HR2.out] : joinR n1 a n2 b gap = trErr 6)]; refine trPost_err (by rfl) ?_; (refine Ok.toEx ?_; (repeat (first | (with_reducible exact Ok.rf _) | (with_reducible refine Ok.alloc ?_ _) | (with_reducible refine Ok.ex ?_ _) | (with_reducible refine Ok.drew ?_) | (with_reducible refine Ok.setCellI ?_ _ _ _) | (with_reducible refine Ok.exb ?_ _)))))
              · have HR2 := hid (trChk_yes hv3)
                go_wp2_with (go_at_call 78; (with_reducible refine (doneN_yes n1 _ _ _ (jnP a b (ta + gap) tb b.length) _ ?_ rfl hs1 ?_ hv3).mono ?_); (· infer_instance); (· omega); rintro e w' ⟨rfl, k8, rfl⟩)
                refine bodyPost_ret (v := _) (by first | (simp [results, Try.results43, go_sem]; done) | (simp [results, Try.results43, go_sem]; rfl)) rfl ?_
                rw [(by rw [HR.out, HR2.out] : joinR n1 a n2 b gap = ⟨n1, jnP a b (ta + gap) tb b.length, 0⟩)]
                refine trPostN_ok rfl (by rfl) ?_ (by infer_instance) ⟨by omega⟩
                (refine Ok.toEx ?_; (repeat (first | (with_reducible exact Ok.rf _) | (with_reducible refine Ok.alloc ?_ _) | (with_reducible refine Ok.ex ?_ _) | (with_reducible refine Ok.drew ?_) | (with_reducible refine Ok.setCellI ?_ _ _ _) | (with_reducible refine Ok.exb ?_ _))))
end
end Go.Proofs.Ytamajnhbfdakfaa
