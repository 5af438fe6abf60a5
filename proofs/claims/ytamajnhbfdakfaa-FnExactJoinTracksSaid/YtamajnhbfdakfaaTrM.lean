/-
  ShiftTrack of the specification. Conditions: those typed at each theorem.
-/
import Derived.Test.YtamajnhbfdakfaaTrL
namespace Go.Proofs.Ytamajnhbfdakfaa
open Go.RowKit
theorem fz_block {w w' : World} {b o : Nat} (h : w'.heap[b]? = w.heap[b]?) : w'.frozen? ⟨b, o, none⟩ = w.frozen? ⟨b, o, none⟩ := by simp only [World.frozen?, h]
theorem But.frozen {A : Option Addr} {w w' : World} (h : But A w w') {b : Nat} [hb : LtW b w] (hne : ∀ o, A ≠ some ⟨b, o, none⟩) (o : Nat) : w'.frozen? ⟨b, o, none⟩ = w.frozen? ⟨b, o, none⟩ := fz_block (h.block b hb.h hne)
theorem ne_blk {a b o p : Nat} (h : a ≠ b) : some (⟨a, o, none⟩ : Addr) ≠ some ⟨b, p, none⟩ := fun e => h (congrArg Addr.block (Option.some.inj e))
section
set_option maxHeartbeats 3200000
set_option maxRecDepth 20000
theorem sShift_any (nm : ByteArray) (A : Option Addr) (c : Nat) (l : List Ky) (d : Int) (w : World) [hl : Rd 2 kC w A l] (hs : nm.size ≤ maxLen) (hn : l.length ≤ 1048576) :
    Calls Try.prog 37 #[.agg #[.string nm, .slice A l.length c], .int .i64 d] w (TrPost (shiftR nm l d) w) := by
  cases hv : vT nm l
  · have HR := hid (shiftR_inv (d := d) hv)
    go_enter Try.func37, Try.ntmps37
    go_wp2_with ((go_at_call 64; (refine (one_any nm A c l _ _ hs hn ?_ ?_).mono ?_); (· simp [go_sem]); (· simp [go_sem]); rw [hv]; rintro e w' ⟨rfl, k, rfl⟩))
    (refine bodyPost_ret (v := _) (by first | (simp [results, Try.results37, go_sem]; done) | (simp [results, Try.results37, go_sem]; rfl)) rfl ?_; rw [HR.out]; refine trPost_err (by rfl) ?_; (refine Ok.toEx ?_; (repeat (first | (with_reducible exact Ok.rf _) | (with_reducible refine Ok.alloc ?_ _) | (with_reducible refine Ok.ex ?_ _) | (with_reducible refine Ok.drew ?_) | (with_reducible refine Ok.setCellI ?_ _ _ _) | (with_reducible refine Ok.exb ?_ _)))))
  · by_cases hd : -7200000 ≤ d ∧ d ≤ 7200000
    rotate_left
    · have HR := hid (shiftR_rng hv hd)
      have hd : d < -7200000 ∨ 7200000 < d := by omega
      go_enter Try.func37, Try.ntmps37
      go_wp2_with (first | (go_at_call 64; (refine (one_any nm A c l _ _ hs hn ?_ ?_).mono ?_); (· simp [go_sem]); (· simp [go_sem]); rw [hv]; rintro e w' ⟨rfl, k, rfl⟩) | (go_at_call 76; first | (refine (in_yes _ _ _ _ (by omega) (by omega)).mono ?_; rintro e w' ⟨rfl, rfl⟩) | (refine (in_no _ _ _ _ (by omega)).mono ?_; rintro e w' ⟨rfl, rfl⟩)))
      (refine bodyPost_ret (v := _) (by first | (simp [results, Try.results37, go_sem]; done) | (simp [results, Try.results37, go_sem]; rfl)) rfl ?_; rw [HR.out]; refine trPost_err (by rfl) ?_; (refine Ok.toEx ?_; (repeat (first | (with_reducible exact Ok.rf _) | (with_reducible refine Ok.alloc ?_ _) | (with_reducible refine Ok.ex ?_ _) | (with_reducible refine Ok.drew ?_) | (with_reducible refine Ok.setCellI ?_ _ _ _) | (with_reducible refine Ok.exb ?_ _)))))
    · have HR := hid (shiftR_go hv hd)
      have hk := (vT_of hv).2.vk
      have hkn := hk.n
      have HK := hid hk
      clear hk
      obtain ⟨hd1, hd2⟩ := hd
      have hln := hid (shiftK_len l d)
      go_enter Try.func37, Try.ntmps37
      go_wp2_with (first | (go_at_call 64; (refine (one_any nm A c l _ _ hs hn ?_ ?_).mono ?_); (· simp [go_sem]); (· simp [go_sem]); rw [hv]; rintro e w' ⟨rfl, k, rfl⟩) | (go_at_call 76; first | (refine (in_yes _ _ _ _ (by omega) (by omega)).mono ?_; rintro e w' ⟨rfl, rfl⟩) | (refine (in_no _ _ _ _ (by omega)).mono ?_; rintro e w' ⟨rfl, rfl⟩)) | (go_at_call 77; (with_reducible refine (own_any nm A c l _ _ ?_ ?_ ?_ ?_).mono ?_); (· omega); (· omega); (· simp [go_sem]); (· simp [go_sem]); rintro e w' ⟨g, c9, rfl, k9, rfl, hw9, hg9⟩))
      haveI hkr := KR.of_wr hw9
      have hg1 := hw9.lt.h
      have hg2 := hg9.h
      have hg3 := (inferInstance : LtW (w.heap.size + 1) k.v).h
      have hg4 := (inferInstance : LtW (w.heap.size + 1) k9.v).h
      obtain ⟨W1, hW1⟩ : ∃ W1, W1 = k9.v.alloc (.cells #[.string nm, .slice (some ⟨g, 0, none⟩) l.length c9] 29) := ⟨_, rfl⟩
      have z0 : W1.cell? ⟨k9.v.heap.size, 0, none⟩ = some (.string nm) := by rw [hW1]; simp [go_sem]
      have z1 : W1.cell? ⟨k9.v.heap.size, 1, none⟩ = some (.slice (some ⟨g, 0, none⟩) l.length c9) := by rw [hW1]; simp [go_sem]
      have y0 : W1.cell? ⟨w.heap.size + 1, 0, none⟩ = some (.string ⟨#[]⟩) := by rw [hW1]; simp [go_sem]
      have y1 : W1.cell? ⟨w.heap.size + 1, 1, none⟩ = some (.slice none 0 0) := by rw [hW1]; simp [go_sem]
      have yf : ∀ o, W1.frozen? ⟨w.heap.size + 1, o, none⟩ = false := by intro o; rw [hW1]; simp [go_sem]
      haveI l6 : LtW k9.v.heap.size W1 := by rw [hW1]; infer_instance
      haveI l4 : LtW (w.heap.size + 1) W1 := by rw [hW1]; infer_instance
      have hkr0 : Hid (KR W1 g (shF l d 0) l.length) := hid (by rw [hW1, shF_zero]; infer_instance)
      have hEx : ∃ j : Ex w, W1 = j.v := by rw [hW1]; (refine Ok.toEx ?_; (repeat (first | (with_reducible exact Ok.rf _) | (with_reducible refine Ok.alloc ?_ _) | (with_reducible refine Ok.ex ?_ _) | (with_reducible refine Ok.drew ?_) | (with_reducible refine Ok.setCellI ?_ _ _ _) | (with_reducible refine Ok.exb ?_ _))))
      rw [← hW1]
      have YF := hid yf
      clear hW1 yf
      generalize k9.v.heap.size = T6 at *
      haveI hgl : LeB w.heap.size g := ⟨by omega⟩
      haveI hgn : NeB (w.heap.size + 1) g := ⟨by omega⟩
      obtain ⟨j9, rfl⟩ := hEx
      go_loopw [7] (fun t wr => ∃ q : Nat, q ≤ l.length ∧ t = .int .i64 q ∧ ∃ j : Ex w, wr = j.v ∧ KR j.v g (shF l d q) l.length ∧ But (some ⟨g, 0, none⟩) j9.v j.v) (fun t _ => l.length - (intOf t).toNat)
      case atStart => exact ⟨0, Nat.zero_le _, rfl, j9, rfl, hkr0.out, But.rf _ _⟩
      case round =>
        obtain ⟨q, hq, rfl, j0, rfl, hR, hB⟩ := hrel
        have x0 := hB.cell (b := T6) (fun o => ne_blk (by omega)) 0 z0
        have x1 := hB.cell (b := T6) (fun o => ne_blk (by omega)) 1 z1
        haveI l6' : LtW T6 j0.v := hB.lt
        have HB := hid hB
        clear hB
        by_cases hlt : q < l.length
        · have hb1 := hR.lt
          obtain ⟨c0, f0⟩ := hR.c0 hlt
          rw [shF_at] at c0
          obtain ⟨⟨t1, t2⟩, -⟩ := HK.out.kg q hlt
          have HR' := hid hR
          have HS := hid (shF_step l d q)
          clear hR
          generalize hx : kyG l q = x at *
          go_wp2
          go_roundw
          case rel => exact ⟨q + 1, by omega, by go_num, ex_and (fun W => KR W g (shF l d (q + 1)) l.length ∧ But (some ⟨g, 0, none⟩) j9.v W) (by (refine Ok.toEx ?_; (repeat (first | (with_reducible exact Ok.rf _) | (with_reducible refine Ok.alloc ?_ _) | (with_reducible refine Ok.ex ?_ _) | (with_reducible refine Ok.drew ?_) | (with_reducible refine Ok.setCellI ?_ _ _ _) | (with_reducible refine Ok.exb ?_ _))))) ⟨by rw [← HS.out]; exact HR'.out.set q _, But.set HB.out _ _⟩⟩
          case measure => simp [intOf]; omega
        · obtain rfl : q = l.length := by omega
          have v0 := HB.out.cell (b := w.heap.size + 1) (fun o => ne_blk (by omega)) 0 y0
          have v1 := HB.out.cell (b := w.heap.size + 1) (fun o => ne_blk (by omega)) 1 y1
          have f0 := (HB.out.frozen (b := w.heap.size + 1) (fun o => ne_blk (by omega)) 0).trans (YF.out 0)
          have f1 := (HB.out.frozen (b := w.heap.size + 1) (fun o => ne_blk (by omega)) 1).trans (YF.out 1)
          haveI l4' : LtW (w.heap.size + 1) j0.v := HB.out.lt
          haveI hwr := hR.wr (by omega) (shiftK_len l d) (fun k hk => shF_end hk)
          clear hR
          cases hv2 : vT nm (shiftK l d)
          · have HR2 := hid (trChk_no hv2)
            go_wp2_with (go_at_call 78; refine (doneN_no nm _ _ _ (shiftK l d) _ ?_ hln.out hs hn hv2).mono ?_; (· infer_instance); rintro e w' ⟨rfl, k8, rfl⟩)
            refine bodyPost_ret (v := _) (by first | (simp [results, Try.results37, go_sem, v0, v1]; done) | (simp [results, Try.results37, go_sem, v0, v1]; rfl)) rfl ?_
            rw [HR.out, HR2.out]
            refine trPost_err (by rfl) ?_
            (refine Ok.toEx ?_; (repeat (first | (with_reducible exact Ok.rf _) | (with_reducible refine Ok.alloc ?_ _) | (with_reducible refine Ok.ex ?_ _) | (with_reducible refine Ok.drew ?_) | (with_reducible refine Ok.setCellI ?_ _ _ _) | (with_reducible refine Ok.exb ?_ _))))
          · have HR2 := hid (trChk_yes hv2)
            go_wp2_with (go_at_call 78; refine (doneN_yes nm _ _ _ (shiftK l d) _ ?_ hln.out hs hn hv2).mono ?_; (· infer_instance); rintro e w' ⟨rfl, k8, rfl⟩)
            refine bodyPost_ret (v := _) (by first | (simp [results, Try.results37, go_sem, v0, v1]; done) | (simp [results, Try.results37, go_sem, v0, v1]; rfl)) rfl ?_
            rw [HR.out, HR2.out]
            refine trPostN_ok hln.out (by rfl) ?_ (by infer_instance) hgl
            (refine Ok.toEx ?_; (repeat (first | (with_reducible exact Ok.rf _) | (with_reducible refine Ok.alloc ?_ _) | (with_reducible refine Ok.ex ?_ _) | (with_reducible refine Ok.drew ?_) | (with_reducible refine Ok.setCellI ?_ _ _ _) | (with_reducible refine Ok.exb ?_ _))))
end
end Go.Proofs.Ytamajnhbfdakfaa
