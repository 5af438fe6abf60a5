/-
  DropKey of the program. Conditions: those typed at each theorem.
-/
import Derived.Test.YtamajnhbfdakfaaTrY
namespace Go.Proofs.Ytamajnhbfdakfaa
open Go.RowKit
theorem dI_part (l : List Ky) (t : Int) : (∃ q, q < l.length ∧ (kyG l q).t = t ∧ ∀ j, j < q → (kyG l j).t ≠ t) ∨ ∀ j, j < l.length → (kyG l j).t ≠ t := by
  by_cases h : dI l t < l.length
  · refine .inl ⟨dI l t, h, ?_, fun j hj => ?_⟩
    · have := List.findIdx_getElem (p := fun k : Ky => decide (k.t = t)) (xs := l) (w := h)
      rw [kyG_at h]
      exact of_decide_eq_true this
    · have := List.not_of_lt_findIdx (p := fun k : Ky => decide (k.t = t)) (xs := l) hj
      rw [kyG_at (Nat.lt_trans hj h)]
      simpa using this
  · refine .inr fun j hj => ?_
    have hj' : j < List.findIdx (fun k : Ky => decide (k.t = t)) l := by unfold dI at h; omega
    have := List.not_of_lt_findIdx (p := fun k : Ky => decide (k.t = t)) (xs := l) hj'
    rw [kyG_at hj]
    simpa using this
section
set_option maxHeartbeats 3200000
set_option maxRecDepth 20000
theorem iDrop_any (nm : ByteArray) (A : Option Addr) (c : Nat) (l : List Ky) (t : Int) (w : World) [hl : Rd 2 kC w A l] (hs : nm.size ≤ maxLen) (hn : l.length ≤ 1048576) :
    Calls Try.prog 40 #[.agg #[.string nm, .slice A l.length c], .int .i64 t] w (TrPost (drR nm l t) w) := by
  cases hv : vT nm l
  · have HR := hid (drR_inv (t := t) hv)
    go_enter Try.func40, Try.ntmps40
    go_wp2_with ((go_at_call 23; (with_reducible refine (iVT_any nm _ _ l _ hs hn).mono ?_); rw [hv]; rintro e w' ⟨rfl, k, rfl⟩))
    (refine bodyPost_ret (v := _) (by first | (simp [results, Try.results40, go_sem]; done) | (simp [results, Try.results40, go_sem]; rfl)) rfl ?_; rw [HR.out]; refine trPost_err (by rfl) ?_; (refine Ok.toEx ?_; (repeat (first | (with_reducible exact Ok.rf _) | (with_reducible refine Ok.alloc ?_ _) | (with_reducible refine Ok.ex ?_ _) | (with_reducible refine Ok.drew ?_) | (with_reducible refine Ok.setCellI ?_ _ _ _) | (with_reducible refine Ok.exb ?_ _)))))
  · have hk := (vT_of hv).2.vk
    obtain ⟨hk1, hk2⟩ := hk.n
    rcases dI_part l t with ⟨q, hq, he, hb⟩ | hb
    · have HI := hid (dII_hit hq he hb)
      by_cases h1 : l.length = 1
      · have HR := hid (drR_one hv hq he hb h1)
        have h1b : ((l.length : Int) == 1) = true := by rw [beq_iff_eq]; omega
        clear h1 he hb hk
        go_enter Try.func40, Try.ntmps40
        go_wp2_with (first | (go_at_call 23; (with_reducible refine (iVT_any nm _ _ l _ hs hn).mono ?_); rw [hv]; rintro e w' ⟨rfl, k, rfl⟩) | (go_at_call 85; (with_reducible refine (idxDr A c l _ t _ ?_ ?_).mono ?_); (· infer_instance); (· simp [go_sem]); rw [HI.out]; rintro e w' ⟨rfl, k5, rfl⟩))
        (refine bodyPost_ret (v := _) (by first | (simp [results, Try.results40, go_sem]; done) | (simp [results, Try.results40, go_sem]; rfl)) rfl ?_; rw [HR.out]; refine trPost_err (by rfl) ?_; (refine Ok.toEx ?_; (repeat (first | (with_reducible exact Ok.rf _) | (with_reducible refine Ok.alloc ?_ _) | (with_reducible refine Ok.ex ?_ _) | (with_reducible refine Ok.drew ?_) | (with_reducible refine Ok.setCellI ?_ _ _ _) | (with_reducible refine Ok.exb ?_ _)))))
      · have HR := hid (drR_go hv hq he hb h1)
        have h1b : ((l.length : Int) == 1) = false := by rw [beq_eq_false_iff_ne]; omega
        clear h1 he hb hk
        have hwl := hid (woK_len hq)
        have hq1 : IntKind.i64.wrap ((q : Int) + 1) = (q : Int) + 1 := IntWalk.i64_in _ (by omega)
        go_enter Try.func40, Try.ntmps40
        go_wp2_with (first | (go_at_call 23; (with_reducible refine (iVT_any nm _ _ l _ hs hn).mono ?_); rw [hv]; rintro e w' ⟨rfl, k, rfl⟩) | (go_at_call 85; (with_reducible refine (idxDr A c l _ t _ ?_ ?_).mono ?_); (· infer_instance); (· simp [go_sem]); rw [HI.out]; rintro e w' ⟨rfl, k5, rfl⟩))
        go_region_held3 (fun W => W.cell? ⟨w.heap.size, 0, none⟩ = some (.string nm) ∧ W.cell? ⟨w.heap.size, 1, none⟩ = some (.slice A l.length c)) ((refine ⟨?_, ?_⟩ <;> simp [go_sem])) ((first | (go_at_call 79; (with_reducible refine (clone_any _ _ l _ ?_ ?_).mono ?_); (· omega); (· omega); rintro e w' ⟨g, c9, rfl, hcc, k9, rfl, hw9, hg9⟩) | (go_at_call 87; (with_reducible refine (del_any g c9 l.length q l _ hg9 hw9 ?_ ?_ ?_ ?_).mono ?_); (· rfl); (· exact hq); (· exact hcc); (· omega); rintro e w' ⟨rfl, k8, rfl, hw8, -⟩)))
        go_wp2
        haveI hw7 : Wr 2 kC k8.v g (woK l q) := hw8
        haveI : NeB (w.heap.size + 1 + 1) g := neb_of hg9
        refine bodyPost_ret (v := _) (by first | (simp [results, Try.results40, go_sem]; done) | (simp [results, Try.results40, go_sem]; rfl)) rfl ?_
        rw [HR.out]
        refine trPostN_ok hwl.out (by rfl) ?_ (by infer_instance) ⟨Nat.le_trans (by have := (inferInstance : LeB w.heap.size k5.v.drew.heap.size).h; exact this) hg9.h⟩
        (refine Ok.toEx ?_; (repeat (first | (with_reducible exact Ok.rf _) | (with_reducible refine Ok.alloc ?_ _) | (with_reducible refine Ok.ex ?_ _) | (with_reducible refine Ok.drew ?_) | (with_reducible refine Ok.setCellI ?_ _ _ _) | (with_reducible refine Ok.exb ?_ _))))
    · have HI := hid (dII_miss hb)
      have HR := hid (drR_miss hv hb)
      clear hb hk
      go_enter Try.func40, Try.ntmps40
      go_wp2_with (first | (go_at_call 23; (with_reducible refine (iVT_any nm _ _ l _ hs hn).mono ?_); rw [hv]; rintro e w' ⟨rfl, k, rfl⟩) | (go_at_call 85; (with_reducible refine (idxDr A c l _ t _ ?_ ?_).mono ?_); (· infer_instance); (· simp [go_sem]); rw [HI.out]; rintro e w' ⟨rfl, k5, rfl⟩))
      (refine bodyPost_ret (v := _) (by first | (simp [results, Try.results40, go_sem]; done) | (simp [results, Try.results40, go_sem]; rfl)) rfl ?_; rw [HR.out]; refine trPost_err (by rfl) ?_; (refine Ok.toEx ?_; (repeat (first | (with_reducible exact Ok.rf _) | (with_reducible refine Ok.alloc ?_ _) | (with_reducible refine Ok.ex ?_ _) | (with_reducible refine Ok.drew ?_) | (with_reducible refine Ok.setCellI ?_ _ _ _) | (with_reducible refine Ok.exb ?_ _)))))
end
end Go.Proofs.Ytamajnhbfdakfaa
