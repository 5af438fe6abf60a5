/-
  JoinTracks of the program. Conditions: those typed at each theorem.
-/
import Derived.Test.YtamajnhbfdakfaaTrJn
import Derived.BigQuiet
namespace Go.Proofs.Ytamajnhbfdakfaa
open Go.RowKit
theorem concatN_any (b : Nat) (A B : Option Addr) (ca cb n : Nat) (x y : List Ky) (w : World) (hb : LtW b w) (hx : Rd 2 kC w A x) (hy : Rd 2 kC w B y) (hny : y.length = n) (h1 : 1 ≤ x.length) (h2 : 1 ≤ n) (hn : x.length + n ≤ 48) (c0 : w.cell? ⟨b, 0, none⟩ = some (.slice A x.length ca)) (c1 : w.cell? ⟨b, 1, none⟩ = some (.slice B n cb)) :
    Calls Try.prog 89 #[.slice (some ⟨b, 0, none⟩) 2 2] w fun e w' => ∃ g c, e = .returned (.slice (some ⟨g, 0, none⟩) (x.length + n) c) ∧ ∃ k : Ex w, w' = k.v ∧ Wr 2 kC k.v g (x ++ y) ∧ LeB w.heap.size g := by
  subst hny; exact concat_any b A B ca cb x y w h1 h2 hn c0 c1
theorem joinBy_at {a b : List Ky} {p : Nat} (hp : a.length = p + 1) (gap : Int) : joinBy a b gap = (kyG a p).t + gap - (kyG b 0).t := by unfold joinBy; rw [hp]; rfl
section
set_option maxHeartbeats 6400000
set_option maxRecDepth 20000
theorem iJoin_any (n1 : ByteArray) (A : Option Addr) (c1 : Nat) (a : List Ky) (n2 : ByteArray) (B : Option Addr) (c2 : Nat) (b : List Ky) (gap : Int) (w : World) [hl1 : Rd 2 kC w A a] [hl2 : Rd 2 kC w B b] (hs1 : n1.size ≤ maxLen) (hn1 : a.length ≤ 1048576) (hs2 : n2.size ≤ maxLen) (hn2 : b.length ≤ 1048576) :
    Calls Try.prog 44 #[.agg #[.string n1, .slice A a.length c1], .agg #[.string n2, .slice B b.length c2], .int .i64 gap] w (TrPost (joinR n1 a n2 b gap) w) := by
  cases hv1 : vT n1 a
  · have HR := hid (joinR_inv (gap := gap) (n2 := n2) (b := b) (.inl hv1))
    go_enter Try.func44, Try.ntmps44
    go_wp2_with ((first | (go_at_call 23; (with_reducible refine (iVT_any n1 _ _ a _ hs1 hn1).mono ?_); rw [hv1]; rintro e w' ⟨rfl, k, rfl⟩) | (go_at_call 23; (with_reducible refine (iVT_any n2 _ _ b _ hs2 hn2).mono ?_); rw [hv2]; rintro e w' ⟨rfl, k, rfl⟩)))
    (refine bodyPost_ret (v := _) (by first | (simp [results, Try.results44, go_sem]; done) | (simp [results, Try.results44, go_sem]; rfl)) rfl ?_; rw [HR.out]; refine trPost_err (by rfl) ?_; (refine Ok.toEx ?_; (repeat (first | (with_reducible exact Ok.rf _) | (with_reducible refine Ok.alloc ?_ _) | (with_reducible refine Ok.ex ?_ _) | (with_reducible refine Ok.drew ?_) | (with_reducible refine Ok.setCellI ?_ _ _ _) | (with_reducible refine Ok.exb ?_ _)))))
  · cases hv2 : vT n2 b
    · have HR := hid (joinR_inv (gap := gap) (n1 := n1) (a := a) (.inr hv2))
      go_enter Try.func44, Try.ntmps44
      go_wp2_with ((first | (go_at_call 23; (with_reducible refine (iVT_any n1 _ _ a _ hs1 hn1).mono ?_); rw [hv1]; rintro e w' ⟨rfl, k, rfl⟩) | (go_at_call 23; (with_reducible refine (iVT_any n2 _ _ b _ hs2 hn2).mono ?_); rw [hv2]; rintro e w' ⟨rfl, k, rfl⟩)))
      (refine bodyPost_ret (v := _) (by first | (simp [results, Try.results44, go_sem]; done) | (simp [results, Try.results44, go_sem]; rfl)) rfl ?_; rw [HR.out]; refine trPost_err (by rfl) ?_; (refine Ok.toEx ?_; (repeat (first | (with_reducible exact Ok.rf _) | (with_reducible refine Ok.alloc ?_ _) | (with_reducible refine Ok.ex ?_ _) | (with_reducible refine Ok.drew ?_) | (with_reducible refine Ok.setCellI ?_ _ _ _) | (with_reducible refine Ok.exb ?_ _)))))
    · by_cases hd : 1 ≤ gap ∧ gap ≤ 7200000
      rotate_left
      · have HR := hid (joinR_rng hv1 hv2 hd)
        have hd : gap < 1 ∨ 7200000 < gap := by omega
        go_enter Try.func44, Try.ntmps44
        go_wp2_with (first | (first | (go_at_call 23; (with_reducible refine (iVT_any n1 _ _ a _ hs1 hn1).mono ?_); rw [hv1]; rintro e w' ⟨rfl, k, rfl⟩) | (go_at_call 23; (with_reducible refine (iVT_any n2 _ _ b _ hs2 hn2).mono ?_); rw [hv2]; rintro e w' ⟨rfl, k, rfl⟩)) | (go_at_call 66; first | (refine (wi_yes _ _ _ _ (by omega) (by omega)).mono ?_; rintro e w' ⟨rfl, rfl⟩) | (refine (wi_no _ _ _ _ (by omega)).mono ?_; rintro e w' ⟨rfl, rfl⟩)))
        (refine bodyPost_ret (v := _) (by first | (simp [results, Try.results44, go_sem]; done) | (simp [results, Try.results44, go_sem]; rfl)) rfl ?_; rw [HR.out]; refine trPost_err (by rfl) ?_; (refine Ok.toEx ?_; (repeat (first | (with_reducible exact Ok.rf _) | (with_reducible refine Ok.alloc ?_ _) | (with_reducible refine Ok.ex ?_ _) | (with_reducible refine Ok.drew ?_) | (with_reducible refine Ok.setCellI ?_ _ _ _) | (with_reducible refine Ok.exb ?_ _)))))
      · by_cases hfl : 24 < a.length + b.length
        · have HR := hid (joinR_full hv1 hv2 hd hfl)
          obtain ⟨hd1, hd2⟩ := hd
          have hfi : (24 : Int) < (a.length : Int) + (b.length : Int) := by omega
          go_enter Try.func44, Try.ntmps44
          go_wp2_with (first | (first | (go_at_call 23; (with_reducible refine (iVT_any n1 _ _ a _ hs1 hn1).mono ?_); rw [hv1]; rintro e w' ⟨rfl, k, rfl⟩) | (go_at_call 23; (with_reducible refine (iVT_any n2 _ _ b _ hs2 hn2).mono ?_); rw [hv2]; rintro e w' ⟨rfl, k, rfl⟩)) | (go_at_call 66; first | (refine (wi_yes _ _ _ _ (by omega) (by omega)).mono ?_; rintro e w' ⟨rfl, rfl⟩) | (refine (wi_no _ _ _ _ (by omega)).mono ?_; rintro e w' ⟨rfl, rfl⟩)))
          (refine bodyPost_ret (v := _) (by first | (simp [results, Try.results44, go_sem]; done) | (simp [results, Try.results44, go_sem]; rfl)) rfl ?_; rw [HR.out]; refine trPost_err (by rfl) ?_; (refine Ok.toEx ?_; (repeat (first | (with_reducible exact Ok.rf _) | (with_reducible refine Ok.alloc ?_ _) | (with_reducible refine Ok.ex ?_ _) | (with_reducible refine Ok.drew ?_) | (with_reducible refine Ok.setCellI ?_ _ _ _) | (with_reducible refine Ok.exb ?_ _)))))
        · have HR := hid (joinR_go hv1 hv2 hd hfl)
          have hk1 := (vT_of hv1).2.vk
          have hk2 := (vT_of hv2).2.vk
          obtain ⟨ha1, ha2⟩ := hk1.n
          obtain ⟨hb1, hb2⟩ := hk2.n
          obtain ⟨p, hp⟩ : ∃ p, a.length = p + 1 := ⟨a.length - 1, by omega⟩
          have HJ := hid (joinBy_at (b := b) hp gap)
          obtain ⟨ba, oa, rfl, hba, hca⟩ := hl1.kg (by omega)
          obtain ⟨bb, ob, rfl, hbb, hcb⟩ := hl2.kg (by omega)
          obtain ⟨ca0, -⟩ := hca p (by omega)
          obtain ⟨cb0, -⟩ := hcb 0 (by omega)
          clear hca hcb
          have HK2 := hid hk2
          obtain ⟨⟨ta1, ta2⟩, -⟩ := hk1.kg p (by omega)
          obtain ⟨⟨tb1, tb2⟩, -⟩ := hk2.kg 0 (by omega)
          clear hk1 hk2
          obtain ⟨hd1, hd2⟩ := hd
          have hfi : ¬ (24 : Int) < (a.length : Int) + (b.length : Int) := by omega
          generalize hD : joinBy a b gap = D at *
          have hDr : -21600000 ≤ D ∧ D ≤ 21600000 := by rw [HJ.out]; omega
          have HD := hid hDr
          have hln := hid (shiftK_len b D)
          have hlc : Hid ((a ++ shiftK b D).length = a.length + b.length) := hid (by rw [List.length_append, shiftK_len])
          have hpi : (a.length : Int) - 1 = (p : Int) := by omega
          have hpl : (p : Int) < (a.length : Int) := by omega
          have HJ2 : (kyG a p).t + gap - (kyG b 0).t = D := HJ.out.symm
          clear hD hDr
          generalize (kyG a p).t = ta at *
          generalize (kyG b 0).t = tb at *
          have HP := hid hp
          clear hp
          have hb0 : (0 : Int) < (b.length : Int) := by omega
          have hbn : b ≠ [] := by rintro rfl; simp at hb1
          simp only [Nat.zero_mul, Nat.add_zero] at cb0
          have hz1 : IntKind.i64.wrap (p : Int) = p := IntWalk.i64_in _ (by omega)
          have hz2 : IntKind.i64.wrap (ta + gap) = ta + gap := IntWalk.i64_in _ (by omega)
          have hz3 : IntKind.i64.wrap D = D := IntWalk.i64_in _ (by omega)
          cases hv3 : vT n1 (a ++ shiftK b D)
          · have HR2 := hid (trChk_no hv3)
            go_enter Try.func44, Try.ntmps44
            go_wp2_with (first | (first | (go_at_call 23; (with_reducible refine (iVT_any n1 _ _ a _ hs1 hn1).mono ?_); rw [hv1]; rintro e w' ⟨rfl, k, rfl⟩) | (go_at_call 23; (with_reducible refine (iVT_any n2 _ _ b _ hs2 hn2).mono ?_); rw [hv2]; rintro e w' ⟨rfl, k, rfl⟩)) | (go_at_call 66; first | (refine (wi_yes _ _ _ _ (by omega) (by omega)).mono ?_; rintro e w' ⟨rfl, rfl⟩) | (refine (wi_no _ _ _ _ (by omega)).mono ?_; rintro e w' ⟨rfl, rfl⟩)))
            (refine wp_region_ex (by kernel_rfl) (by kernel_rfl) ?_; (repeat (go_big_quiet_step ((fail)))); refine wpQuiet_nil ?_; rintro _ ⟨k, rfl⟩)
            go_wp2_with (fail)
            go_region_held3 (fun W => W.cell? ⟨w.heap.size, 0, none⟩ = some (.string n1) ∧ W.cell? ⟨w.heap.size, 1, none⟩ = some (.slice (some ⟨ba, oa, none⟩) a.length c1) ∧ W.cell? ⟨w.heap.size + 1, 1, none⟩ = some (.slice (some ⟨bb, ob, none⟩) b.length c2)) ((refine ⟨?_, ?_, ?_⟩ <;> simp [go_sem])) ((first | (go_at_call 83; (with_reducible refine (moved_any _ _ b D _ HK2.out HD.out).mono ?_); rintro e w' ⟨g, c9, rfl, k9, rfl, hw9, hg9⟩) | (go_at_call 89; go_loud ((with_reducible refine (concatN_any _ (some ⟨ba, oa, none⟩) (some ⟨g, 0, none⟩) c1 c9 b.length a (shiftK b D) _ ?_ ?_ ?_ hln.out ?_ ?_ ?_ ?_ ?_).mono ?_); (· infer_instance); (· infer_instance); (· infer_instance); (· omega); (· omega); (· omega); (· simp [go_sem]); (· simp [go_sem]); rintro e w' ⟨g2, c7, rfl, k7, rfl, hw7, hg7⟩)) | (go_at_call 80; (with_reducible refine (chkN_no n1 _ _ _ (a ++ shiftK b D) _ ?_ hlc.out hs1 ?_ hv3).mono ?_); (· infer_instance); (· omega); rintro e w' ⟨rfl, k8, rfl⟩)))
            go_wp2
            (refine bodyPost_ret (v := _) (by first | (simp [results, Try.results44, go_sem]; done) | (simp [results, Try.results44, go_sem]; rfl)) rfl ?_; rw [(by rw [HR.out, HR2.out] : joinR n1 a n2 b gap = trErr 6)]; refine trPost_err (by rfl) ?_; (refine Ok.toEx ?_; (repeat (first | (with_reducible exact Ok.rf _) | (with_reducible refine Ok.alloc ?_ _) | (with_reducible refine Ok.ex ?_ _) | (with_reducible refine Ok.drew ?_) | (with_reducible refine Ok.setCellI ?_ _ _ _) | (with_reducible refine Ok.exb ?_ _)))))
          · have HR2 := hid (trChk_yes hv3)
            go_enter Try.func44, Try.ntmps44
            go_wp2_with (first | (first | (go_at_call 23; (with_reducible refine (iVT_any n1 _ _ a _ hs1 hn1).mono ?_); rw [hv1]; rintro e w' ⟨rfl, k, rfl⟩) | (go_at_call 23; (with_reducible refine (iVT_any n2 _ _ b _ hs2 hn2).mono ?_); rw [hv2]; rintro e w' ⟨rfl, k, rfl⟩)) | (go_at_call 66; first | (refine (wi_yes _ _ _ _ (by omega) (by omega)).mono ?_; rintro e w' ⟨rfl, rfl⟩) | (refine (wi_no _ _ _ _ (by omega)).mono ?_; rintro e w' ⟨rfl, rfl⟩)))
            (refine wp_region_ex (by kernel_rfl) (by kernel_rfl) ?_; (repeat (go_big_quiet_step ((fail)))); refine wpQuiet_nil ?_; rintro _ ⟨k, rfl⟩)
            go_wp2_with (fail)
            go_region_held3 (fun W => W.cell? ⟨w.heap.size, 0, none⟩ = some (.string n1) ∧ W.cell? ⟨w.heap.size, 1, none⟩ = some (.slice (some ⟨ba, oa, none⟩) a.length c1) ∧ W.cell? ⟨w.heap.size + 1, 1, none⟩ = some (.slice (some ⟨bb, ob, none⟩) b.length c2)) ((refine ⟨?_, ?_, ?_⟩ <;> simp [go_sem])) ((first | (go_at_call 83; (with_reducible refine (moved_any _ _ b D _ HK2.out HD.out).mono ?_); rintro e w' ⟨g, c9, rfl, k9, rfl, hw9, hg9⟩) | (go_at_call 89; go_loud ((with_reducible refine (concatN_any _ (some ⟨ba, oa, none⟩) (some ⟨g, 0, none⟩) c1 c9 b.length a (shiftK b D) _ ?_ ?_ ?_ hln.out ?_ ?_ ?_ ?_ ?_).mono ?_); (· infer_instance); (· infer_instance); (· infer_instance); (· omega); (· omega); (· omega); (· simp [go_sem]); (· simp [go_sem]); rintro e w' ⟨g2, c7, rfl, k7, rfl, hw7, hg7⟩)) | (go_at_call 80; (with_reducible refine (chkN_yes n1 _ _ _ (a ++ shiftK b D) _ ?_ hlc.out hs1 ?_ hv3).mono ?_); (· infer_instance); (· omega); rintro e w' ⟨rfl, k8, rfl⟩)))
            go_wp2
            haveI : NeB (w.heap.size + 1 + 1) g2 := neb_of hg7
            refine bodyPost_ret (v := _) (by first | (simp [results, Try.results44, go_sem]; done) | (simp [results, Try.results44, go_sem]; rfl)) rfl ?_
            rw [(by rw [HR.out, HR2.out] : joinR n1 a n2 b gap = ⟨n1, a ++ shiftK b D, 0⟩)]
            refine trPostN_ok hlc.out (by rfl) ?_ (by infer_instance) ⟨Nat.le_trans (LeB.h) hg7.h⟩
            (refine Ok.toEx ?_; (repeat (first | (with_reducible exact Ok.rf _) | (with_reducible refine Ok.alloc ?_ _) | (with_reducible refine Ok.ex ?_ _) | (with_reducible refine Ok.drew ?_) | (with_reducible refine Ok.setCellI ?_ _ _ _) | (with_reducible refine Ok.exb ?_ _))))
end
end Go.Proofs.Ytamajnhbfdakfaa
