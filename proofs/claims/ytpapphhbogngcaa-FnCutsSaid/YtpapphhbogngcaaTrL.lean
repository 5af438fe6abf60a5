/-
  ShiftTrack. Conditions: those typed at each theorem.
-/
import Derived.Test.YtpapphhbogngcaaTrK
namespace Go.Proofs.Ytpapphhbogngcaa
open Go.RowKit
theorem shiftR_inv {nm : ByteArray} {l : List Ky} {d : Int} (h : vT nm l = false) : shiftR nm l d = trErr 1 := by unfold shiftR; rw [h]; rfl
theorem shiftR_rng {nm : ByteArray} {l : List Ky} {d : Int} (h : vT nm l = true) (hd : ¬ (-7200000 ≤ d ∧ d ≤ 7200000)) : shiftR nm l d = trErr 2 := by unfold shiftR; rw [if_pos h, if_neg hd]
theorem shiftR_go {nm : ByteArray} {l : List Ky} {d : Int} (h : vT nm l = true) (hd : -7200000 ≤ d ∧ d ≤ 7200000) : shiftR nm l d = trChk nm (shiftK l d) := by unfold shiftR; rw [if_pos h, if_pos hd]
theorem shiftR_len (nm : ByteArray) (l : List Ky) (d : Int) : (shiftR nm l d).l.length ≤ 24 := by
  unfold shiftR
  split
  · split
    · exact trChk_len _ _
    · simp [trErr]
  · simp [trErr]
section
set_option maxHeartbeats 3200000
set_option maxRecDepth 20000
theorem trPostN_ok {nm : ByteArray} {l : List Ky} {co : Int} {w : World} {e : Ending} {w' : World} {g c n : Nat} (hn : l.length = n) (he : e = .returned (.tuple #[.agg #[.string nm, .slice (some ⟨g, 0, none⟩) n c], .int .i64 co])) (hw : ∃ k : Ex w, w' = k.v) (ho : Wr 2 kC w' g l) (hg : LeB w.heap.size g) :
    TrPost ⟨nm, l, co⟩ w e w' := by
  subst hn; exact trPost_ok he hw ho hg
theorem chkN_no (nm : ByteArray) (A : Option Addr) (n c : Nat) (l : List Ky) (w : World) (hl : Rd 2 kC w A l) (hnl : l.length = n) (hs : nm.size ≤ maxLen) (hn : n ≤ 1048576) (hv : vT nm l = false) :
    Calls Try.prog 61 #[.string nm, .slice A n c] w fun e w' => e = .returned (.tuple #[.agg #[.string ⟨#[]⟩, .slice none 0 0], .int .i64 6]) ∧ ∃ k : Ex w, w' = k.v := by
  subst hnl; exact chk_no nm A c l w hs hn hv
theorem chkN_yes (nm : ByteArray) (A : Option Addr) (n c : Nat) (l : List Ky) (w : World) (hl : Rd 2 kC w A l) (hnl : l.length = n) (hs : nm.size ≤ maxLen) (hn : n ≤ 1048576) (hv : vT nm l = true) :
    Calls Try.prog 61 #[.string nm, .slice A n c] w fun e w' => e = .returned (.tuple #[.agg #[.string nm, .slice A n c], .int .i64 0]) ∧ ∃ k : Ex w, w' = k.v := by
  subst hnl; exact chk_yes nm A c l w hs hn hv
theorem iShift_any (nm : ByteArray) (A : Option Addr) (c : Nat) (l : List Ky) (d : Int) (w : World) [hl : Rd 2 kC w A l] (hs : nm.size ≤ maxLen) (hn : l.length ≤ 1048576) :
    Calls Try.prog 26 #[.agg #[.string nm, .slice A l.length c], .int .i64 d] w (TrPost (shiftR nm l d) w) := by
  cases hv : vT nm l
  · have HR := hid (shiftR_inv (d := d) hv)
    go_enter Try.func26, Try.ntmps26
    go_wp2_with ((go_at_call 58; (with_reducible refine (iVT_any nm _ _ l _ hs hn).mono ?_); rw [hv]; rintro e w' ⟨rfl, k, rfl⟩))
    (refine bodyPost_ret (v := _) (by first | (simp [results, Try.results26, go_sem]; done) | (simp [results, Try.results26, go_sem]; rfl)) rfl ?_; rw [HR.out]; refine trPost_err (by rfl) ?_; (refine Ok.toEx ?_; (repeat (first | (with_reducible exact Ok.rf _) | (with_reducible refine Ok.alloc ?_ _) | (with_reducible refine Ok.ex ?_ _) | (with_reducible refine Ok.drew ?_) | (with_reducible refine Ok.setCellI ?_ _ _ _) | (with_reducible refine Ok.exb ?_ _)))))
  · by_cases hd : -7200000 ≤ d ∧ d ≤ 7200000
    rotate_left
    · have HR := hid (shiftR_rng hv hd)
      have hd : d < -7200000 ∨ 7200000 < d := by omega
      go_enter Try.func26, Try.ntmps26
      go_wp2_with (first | (go_at_call 58; (with_reducible refine (iVT_any nm _ _ l _ hs hn).mono ?_); rw [hv]; rintro e w' ⟨rfl, k, rfl⟩) | (go_at_call 43; first | (refine (wi_yes _ _ _ _ (by omega) (by omega)).mono ?_; rintro e w' ⟨rfl, rfl⟩) | (refine (wi_no _ _ _ _ (by omega)).mono ?_; rintro e w' ⟨rfl, rfl⟩)))
      (refine bodyPost_ret (v := _) (by first | (simp [results, Try.results26, go_sem]; done) | (simp [results, Try.results26, go_sem]; rfl)) rfl ?_; rw [HR.out]; refine trPost_err (by rfl) ?_; (refine Ok.toEx ?_; (repeat (first | (with_reducible exact Ok.rf _) | (with_reducible refine Ok.alloc ?_ _) | (with_reducible refine Ok.ex ?_ _) | (with_reducible refine Ok.drew ?_) | (with_reducible refine Ok.setCellI ?_ _ _ _) | (with_reducible refine Ok.exb ?_ _)))))
    · have HR := hid (shiftR_go hv hd)
      have hk := (vT_of hv).2.vk
      have hkn := hk.n
      have HK := hid hk
      clear hk
      have hd2 : -21600000 ≤ d ∧ d ≤ 21600000 := by omega
      have HD := hid hd2
      obtain ⟨hd1, hd2⟩ := hd
      have hln := hid (shiftK_len l d)
      cases hv2 : vT nm (shiftK l d)
      · have HR2 := hid (trChk_no hv2)
        go_enter Try.func26, Try.ntmps26
        go_wp2_with (first | (go_at_call 58; (with_reducible refine (iVT_any nm _ _ l _ hs hn).mono ?_); rw [hv]; rintro e w' ⟨rfl, k, rfl⟩) | (go_at_call 43; first | (refine (wi_yes _ _ _ _ (by omega) (by omega)).mono ?_; rintro e w' ⟨rfl, rfl⟩) | (refine (wi_no _ _ _ _ (by omega)).mono ?_; rintro e w' ⟨rfl, rfl⟩)))
        go_region_held3 (fun W => W.cell? ⟨w.heap.size, 0, none⟩ = some (.string nm) ∧ W.cell? ⟨w.heap.size, 1, none⟩ = some (.slice A l.length c)) ((refine ⟨?_, ?_⟩ <;> simp [go_sem])) ((first | (go_at_call 62; (with_reducible refine (moved_any _ _ l d _ HK.out HD.out).mono ?_); rintro e w' ⟨g, c9, rfl, k9, rfl, hw9, hg9⟩) | (go_at_call 61; refine (chkN_no nm _ _ _ (shiftK l d) _ ?_ hln.out hs hn hv2).mono ?_; (· infer_instance); rintro e w' ⟨rfl, k8, rfl⟩)))
        go_wp2
        (refine bodyPost_ret (v := _) (by first | (simp [results, Try.results26, go_sem]; done) | (simp [results, Try.results26, go_sem]; rfl)) rfl ?_; rw [(by rw [HR.out, HR2.out] : shiftR nm l d = trErr 6)]; refine trPost_err (by rfl) ?_; (refine Ok.toEx ?_; (repeat (first | (with_reducible exact Ok.rf _) | (with_reducible refine Ok.alloc ?_ _) | (with_reducible refine Ok.ex ?_ _) | (with_reducible refine Ok.drew ?_) | (with_reducible refine Ok.setCellI ?_ _ _ _) | (with_reducible refine Ok.exb ?_ _)))))
      · have HR2 := hid (trChk_yes hv2)
        go_enter Try.func26, Try.ntmps26
        go_wp2_with (first | (go_at_call 58; (with_reducible refine (iVT_any nm _ _ l _ hs hn).mono ?_); rw [hv]; rintro e w' ⟨rfl, k, rfl⟩) | (go_at_call 43; first | (refine (wi_yes _ _ _ _ (by omega) (by omega)).mono ?_; rintro e w' ⟨rfl, rfl⟩) | (refine (wi_no _ _ _ _ (by omega)).mono ?_; rintro e w' ⟨rfl, rfl⟩)))
        go_region_held3 (fun W => W.cell? ⟨w.heap.size, 0, none⟩ = some (.string nm) ∧ W.cell? ⟨w.heap.size, 1, none⟩ = some (.slice A l.length c)) ((refine ⟨?_, ?_⟩ <;> simp [go_sem])) ((first | (go_at_call 62; (with_reducible refine (moved_any _ _ l d _ HK.out HD.out).mono ?_); rintro e w' ⟨g, c9, rfl, k9, rfl, hw9, hg9⟩) | (go_at_call 61; refine (chkN_yes nm _ _ _ (shiftK l d) _ ?_ hln.out hs hn hv2).mono ?_; (· infer_instance); rintro e w' ⟨rfl, k8, rfl⟩)))
        go_wp2
        haveI : NeB (w.heap.size + 1) g := neb_of hg9
        (refine bodyPost_ret (v := _) (by first | (simp [results, Try.results26, go_sem]; done) | (simp [results, Try.results26, go_sem]; rfl)) rfl ?_; rw [(by rw [HR.out, HR2.out] : shiftR nm l d = ⟨nm, shiftK l d, 0⟩)]; refine trPostN_ok hln.out (by rfl) ?_ (by infer_instance) ⟨Nat.le_trans (by have := (inferInstance : LeB w.heap.size k.v.drew.heap.size).h; exact this) (hg9).h⟩; (refine Ok.toEx ?_; (repeat (first | (with_reducible exact Ok.rf _) | (with_reducible refine Ok.alloc ?_ _) | (with_reducible refine Ok.ex ?_ _) | (with_reducible refine Ok.drew ?_) | (with_reducible refine Ok.setCellI ?_ _ _ _) | (with_reducible refine Ok.exb ?_ _)))))
end
end Go.Proofs.Ytpapphhbogngcaa
