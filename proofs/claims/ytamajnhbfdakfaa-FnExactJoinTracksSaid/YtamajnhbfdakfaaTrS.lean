/-
  The law of SlowTrack. Conditions: those typed at each theorem.
-/
import Derived.Test.YtamajnhbfdakfaaTrR
namespace Go.Proofs.Ytamajnhbfdakfaa
open Go.RowKit
section
set_option maxHeartbeats 3200000
set_option maxRecDepth 20000
theorem lSlowTrack (nm : ByteArray) (A : Option Addr) (c : Nat) (l : List Ky) (d : Int) (w : World) (hl : Rd 2 kC w A l) (hs : nm.size ≤ 9223372036854775807) (_hd : i64' d) :
    Calls Try.prog 11 #[.agg #[.string nm, .slice A l.length c], .int .i64 d] w fun e w' => e = .returned (.bool true) ∧ ∃ k : Ex w, w' = k.v := by
  have hs' : nm.size ≤ maxLen := hs
  have hlen := hl.len
  obtain ⟨rn, rl, co, hR⟩ : ∃ rn rl co, slR nm l d = ⟨rn, rl, co⟩ := ⟨_, _, _, rfl⟩
  have hrl : rl.length ≤ 24 := by have h := slR_len nm l d; rw [hR] at h; exact h
  have HR := hid hR
  clear hR
  go_enter Try.func11, Try.ntmps11
  go_wp2_with ((go_at_call 17; (with_reducible refine (szTrack_any nm _ _ l _ _ ?_ ?_ ?_).mono ?_); (· omega); (· omega); (· omega); rintro e w' ⟨m, rfl, ⟨m_1, m_2, m_3⟩, k, rfl⟩))
  · (go_ret; refine ⟨by first | rfl | (simp; done), ?_⟩; (refine Ok.toEx ?_; (repeat (first | (with_reducible exact Ok.rf _) | (with_reducible refine Ok.alloc ?_ _) | (with_reducible refine Ok.ex ?_ _) | (with_reducible refine Ok.drew ?_) | (with_reducible refine Ok.setCellI ?_ _ _ _) | (with_reducible refine Ok.exb ?_ _)))))
  obtain ⟨hm4, hm5⟩ := m_3 (by omega)
  clear m_3
  go_wp2_with ((go_at_call 19; (with_reducible refine (toTrack_any nm _ _ l _ ?_).mono ?_); (· omega); rintro e w' ⟨b1, rfl, k1, rfl, hw1, hb1⟩))
  go_wp2_with (go_at_call 41; (with_reducible refine (sSlow_any nm _ _ l d _ hs' hm4).mono ?_); rw [HR.out]; rintro e w' ⟨Aw, cw, rfl, k2, rfl, how, hfw, hiw⟩)
  go_wp2_with ((go_at_call 19; (with_reducible refine (toTrack_any nm _ _ l _ ?_).mono ?_); (· omega); rintro e w' ⟨b2, rfl, k3, rfl, hw2, hb2⟩))
  go_wp2_with (go_at_call 42; (with_reducible refine (iSlow_any nm _ _ l d _ hs' hm4).mono ?_); rw [HR.out]; rintro e w' ⟨Ag, cg, rfl, k4, rfl, hog, hfg, hig⟩)
  go_wp2_with ((go_at_call 21; (with_reducible refine (eqTrack_any rn _ _ _ _ rl _).mono ?_); rintro e w' ⟨rfl, k5, rfl⟩))
  (go_region_held3 (fun W => W.cell? ⟨k3.v.heap.size, 0, none⟩ = some (.string nm) ∧ W.cell? ⟨k3.v.heap.size, 1, none⟩ = some (.slice (some ⟨b2, 0, none⟩) l.length l.length) ∧ W.cell? ⟨w.heap.size, 0, none⟩ = some (.string nm) ∧ W.cell? ⟨w.heap.size, 1, none⟩ = some (.slice A l.length c)) ((refine ⟨?_, ?_, ?_, ?_⟩ <;> simp [go_sem])) ((first | (go_at_call 19; (with_reducible refine (toTrack_any nm _ _ l _ ?_).mono ?_); (· omega); rintro e w' ⟨b3, rfl, k6, rfl, hwx, hbx⟩) | (go_at_call 21; (with_reducible refine (eqTrack_any nm _ _ _ _ l _).mono ?_); rintro e w' ⟨rfl, kx, rfl⟩))))
  haveI hg1 := hw2.lt
  haveI hg2 : LeB k2.v.heap.size b2 := ⟨by have := hb2.h; simp at this; omega⟩
  have hg3 := hg1.h
  have hg4 := (inferInstance : LeB k3.v.heap.size k4.v.heap.size).h
  have hg5 := (inferInstance : LtW k2.v.heap.size k3.v).h
  have hg6 := hg2.h
  have hg7 : ∀ b o, Ag = some ⟨b, o, none⟩ → k3.v.heap.size < b := fun b o e => by have := hfg.h _ _ _ e; simp at this; omega
  have hg8 := hb2.h
  simp only [World.size_alloc] at hg8
  have hbAg : ∀ b o o', Ag = some ⟨b, o, none⟩ → some (⟨b2, 0, none⟩ : Addr) ≠ some ⟨b, o', none⟩ := fun b o o' e => ne_blk (by have := hg7 b o e; omega)
  haveI hfg2 : Fr k2.v Ag := hfg.mono
  haveI how2 : Ow 2 kC kx.v (some ⟨b2, 0, none⟩) l := inferInstance
  have hinw : Inw kx.v (some ⟨b2, 0, none⟩) := fun b o m e => by cases e; exact (inferInstance : LtW b2 kx.v).h
  go_wp2_with (go_at_call 35; (with_reducible refine (markTrack_any nm k2.v _ _ l _ _ ?_ ?_ ?_ ?_).mono ?_); (· exact hinw); (· omega); (· omega); (· omega); rintro e w' ⟨rfl, k8, rfl, ho8, hb8⟩; have e0 := hb8.cell (b := k4.v.heap.size) (fun o => ne_blk (by omega)) 0 (u := .string rn) (by simp [go_sem]); have e1 := hb8.cell (b := k4.v.heap.size) (fun o => ne_blk (by omega)) 1 (u := .slice Ag rl.length cg) (by simp [go_sem]); have e2 := hb8.cell (b := k2.v.heap.size) (fun o => ne_blk (by omega)) 0 (u := .string rn) (by simp [go_sem]); have e3 := hb8.cell (b := k2.v.heap.size) (fun o => ne_blk (by omega)) 1 (u := .slice Aw rl.length cw) (by simp [go_sem]); haveI e4 : LtW k4.v.heap.size k8.v := hb8.lt; haveI e5 : LtW k2.v.heap.size k8.v := hb8.lt; haveI hog8 : Ow 2 kC k8.v Ag rl := Ow.but (inferInstanceAs (Ow 2 kC kx.v Ag rl)) hb8 hbAg)
  go_wp2_with ((go_at_call 21; (with_reducible refine (eqTrack_any rn _ _ _ _ rl _).mono ?_); rintro e w' ⟨rfl, k9, rfl⟩))
  haveI how9 : Ow 2 kC k9.v Ag rl := inferInstance
  have hinw9 : Inw k9.v Ag := fun b o m e => by
    have h1 := hig b o m e
    have h2 := (inferInstance : LtW k4.v.heap.size k9.v).h
    omega
  have hag4 : ∀ o, Ag ≠ some ⟨k4.v.heap.size, o, none⟩ := fun o e => by have := hig _ _ _ e; omega
  have hag2 : ∀ o, Ag ≠ some ⟨k2.v.heap.size, o, none⟩ := fun o e => by have := hg7 _ _ e; omega
  go_wp2_with (go_at_call 35; (with_reducible refine (markTrack_any rn k2.v _ _ rl _ _ ?_ ?_ ?_ ?_).mono ?_); (· exact hinw9); (· omega); (· omega); (· omega); rintro e w' ⟨rfl, k10, rfl, ho10, hb10⟩; have u0 := hb10.cell (b := k4.v.heap.size) hag4 0 (u := .string rn) (by simp [go_sem, e0]); have u1 := hb10.cell (b := k4.v.heap.size) hag4 1 (u := .slice Ag rl.length cg) (by simp [go_sem, e1]); have u2 := hb10.cell (b := k2.v.heap.size) hag2 0 (u := .string rn) (by simp [go_sem, e2]); have u3 := hb10.cell (b := k2.v.heap.size) hag2 1 (u := .slice Aw rl.length cw) (by simp [go_sem, e3]); haveI u4 : LtW k4.v.heap.size k10.v := hb10.lt; haveI u5 : LtW k2.v.heap.size k10.v := hb10.lt)
  go_wp2_with (go_at_call 36; (with_reducible refine (heldTrack_any rn _ _ rl.length _ _ ?_ ?_ ?_).mono ?_); (· omega); (· omega); (· omega); rintro e w' ⟨rfl, k11, rfl⟩)
  go_wp2_with ((go_at_call 19; (with_reducible refine (toTrack_any nm _ _ l _ ?_).mono ?_); (· omega); rintro e w' ⟨b4, rfl, k12, rfl, hw12, hb12⟩))
  go_wp2_with (go_at_call 42; (with_reducible refine (iSlow_any nm _ _ l d _ hs' hm4).mono ?_); rw [HR.out]; rintro e w' ⟨Ah, ch, rfl, k13, rfl, hoh, hfh, hih⟩)
  go_wp2_with ((go_at_call 21; (with_reducible refine (eqTrack_any rn _ _ _ _ rl _).mono ?_); rintro e w' ⟨rfl, k14, rfl⟩))
  go_wp2_with (go_at_call 36; (with_reducible refine (heldTrack_any rn _ _ rl.length _ _ ?_ ?_ ?_).mono ?_); (· omega); (· omega); (· omega); rintro e w' ⟨rfl, k15, rfl⟩)
  all_goals (go_ret; refine ⟨by first | rfl | (simp; done), ?_⟩; (refine Ok.toEx ?_; (repeat (first | (with_reducible exact Ok.rf _) | (with_reducible refine Ok.alloc ?_ _) | (with_reducible refine Ok.ex ?_ _) | (with_reducible refine Ok.drew ?_) | (with_reducible refine Ok.setCellI ?_ _ _ _) | (with_reducible refine Ok.exb ?_ _)))))
end
end Go.Proofs.Ytamajnhbfdakfaa
