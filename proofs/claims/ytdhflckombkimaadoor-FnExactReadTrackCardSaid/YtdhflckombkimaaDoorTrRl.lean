/-
  The law of ReadTrack. Conditions: those typed at each theorem.
-/
import Derived.Test.YtdhflckombkimaaDoorTrRi
import Derived.Test.YtdhflckombkimaaDoorTrN
namespace Go.Proofs.YtdhflckombkimaaDoor
open Go.RowKit
section
set_option maxHeartbeats 3200000
set_option maxRecDepth 20000
theorem srk_any (s : ByteArray) (w : World) (hs : s.size ≤ 1048576) :
    Calls Tryd.prog 11 #[.string s] w (RkPost s w) := by
  obtain ⟨rn, hrn⟩ : ∃ rn, rkN s = rn := ⟨_, rfl⟩
  obtain ⟨rl, hrl⟩ : ∃ rl, rkL s = rl := ⟨_, rfl⟩
  obtain ⟨rb, hrb⟩ : ∃ rb, rkB s = rb := ⟨_, rfl⟩
  have HA := hid (fun W => sReadT_any s W hs)
  unfold RkPost at HA ⊢
  rw [hrn, hrl, hrb] at HA ⊢
  clear hrn hrl hrb
  go_enter Tryd.func11, Tryd.ntmps11
  go_wp2_with (go_at_call 41; (refine (HA.out _).mono ?_); rintro e w' ⟨A', c', rfl, k, rfl, h1, h2, h3⟩; have H1 := hid h1; have H2 := hid h2; have H3 := hid h3; clear h1 h2 h3)
  refine bodyPost_ret (v := _) (by simp [results, Tryd.results11, go_sem]; rfl) rfl ?_
  refine ⟨A', c', rfl, ex_and (fun W => Ow 2 kC W A' rl ∧ Fr w A' ∧ Inw W A') (by (refine Ok.toEx ?_; (repeat (first | (with_reducible exact Ok.rf _) | (with_reducible refine Ok.alloc ?_ _) | (with_reducible refine Ok.ex ?_ _) | (with_reducible refine Ok.drew ?_) | (with_reducible refine Ok.setCellI ?_ _ _ _) | (with_reducible refine Ok.exb ?_ _))))) ⟨⟨fun h0 => ?_⟩, H2.out.mono, fun b o m e => ?_⟩⟩
  · obtain ⟨g, e, hw⟩ := H1.out.own h0
    subst e
    have h4 := H2.out.h g 0 none rfl
    simp only [World.size_alloc] at h4
    haveI : NeB w.heap.size g := ⟨by omega⟩
    haveI := hw
    exact ⟨g, rfl, inferInstance⟩
  · have h4 := H3.out b o m e
    simp only [size_setCell']
    exact h4
theorem lReadTrack (s : ByteArray) (w : World) [Tb w] [Es w] [Er w] [Ml w] (hz : s.size ≤ 9223372036854775807) :
    Calls Tryd.prog 4 #[.string s] w fun e w' => e = .returned (.bool true) ∧ ∃ k : Ex w, w' = k.v := by
  by_cases hs : 1048576 < s.size
  · have hi : (1048576 : Int) < (s.size : Int) := by omega
    go_enter Tryd.func4, Tryd.ntmps4
    go_wp2_with (fail)
    (go_ret; refine ⟨by first | rfl | (simp; done), ?_⟩; (refine Ok.toEx ?_; (repeat (first | (with_reducible exact Ok.rf _) | (with_reducible refine Ok.alloc ?_ _) | (with_reducible refine Ok.ex ?_ _) | (with_reducible refine Ok.drew ?_) | (with_reducible refine Ok.setCellI ?_ _ _ _) | (with_reducible refine Ok.exb ?_ _)))))
  have hi : ¬ (1048576 : Int) < (s.size : Int) := by omega
  have hs : s.size ≤ 1048576 := by omega
  have HA := hid (fun W => srk_any s W hs)
  have HB := hid (fun (W : World) (h1 : Tb W) (h2 : Es W) (h3 : Er W) (h4 : Ml W) => iReadT_any s W hs)
  have hlen := rk_len s
  unfold RkPost at HA HB
  generalize rkN s = rn at *
  generalize rkL s = rl at *
  generalize rkB s = rb at *
  obtain ⟨hrl, hrn⟩ := hlen
  have hrn' : rn.size ≤ maxLen := by simp only [maxLen]; omega
  go_enter Tryd.func4, Tryd.ntmps4
  go_wp2_with (go_at_call 11; (refine (HA.out _).mono ?_); rintro e w' ⟨Aw, cw, rfl, k2, rfl, how, hfw, hiw⟩)
  go_wp2_with (go_at_call 12; (refine (HB.out _ inferInstance inferInstance inferInstance inferInstance).mono ?_); rintro e w' ⟨Ag, cg, rfl, k4, rfl, hog, hfg, hig⟩)
  go_wp2_with ((go_at_call 13; (with_reducible refine (eqTrack_any rn _ _ _ _ rl _).mono ?_); rintro e w' ⟨rfl, k5, rfl⟩))
  have hg4 := (inferInstance : LtW k2.v.heap.size k4.v).h
  have hag4 : ∀ o, Ag ≠ some ⟨k4.v.heap.size, o, none⟩ := fun o e => by have := hig _ _ _ e; omega
  have hag2 : ∀ o, Ag ≠ some ⟨k2.v.heap.size, o, none⟩ := fun o e => by have := hfg.h _ _ _ e; simp only [World.size_alloc] at this; omega
  haveI hfg2 : Fr k2.v Ag := hfg.mono
  haveI hog5 : Ow 2 kC k5.v Ag rl := inferInstance
  have hinw5 : Inw k5.v Ag := fun b o m e => by
    have h1 := hig b o m e
    have h2 := (inferInstance : LtW k4.v.heap.size k5.v).h
    omega
  go_wp2_with (go_at_call 14; (with_reducible refine (markTrack_any rn k2.v _ _ rl _ _ ?_ ?_ ?_ ?_).mono ?_); (· exact hinw5); (· omega); (· omega); (· omega); rintro e w' ⟨rfl, k10, rfl, ho10, hb10⟩; have u0 := hb10.cell (b := k4.v.heap.size) hag4 0 (u := .string rn) (by simp [go_sem]); have u1 := hb10.cell (b := k4.v.heap.size) hag4 1 (u := .slice Ag rl.length cg) (by simp [go_sem]); have u2 := hb10.cell (b := k2.v.heap.size) hag2 0 (u := .string rn) (by simp [go_sem]); have u3 := hb10.cell (b := k2.v.heap.size) hag2 1 (u := .slice Aw rl.length cw) (by simp [go_sem]); haveI u4 : LtW k4.v.heap.size k10.v := hb10.lt; haveI u5 : LtW k2.v.heap.size k10.v := hb10.lt)
  go_wp2_with (go_at_call 15; (with_reducible refine (heldTrack_any rn _ _ rl.length _ _ ?_ ?_ ?_).mono ?_); (· omega); (· omega); (· omega); rintro e w' ⟨rfl, k11, rfl⟩)
  go_wp2_with (go_at_call 12; (refine (HB.out _ inferInstance inferInstance inferInstance inferInstance).mono ?_); rintro e w' ⟨Ah, ch, rfl, k13, rfl, hoh, hfh, hih⟩)
  go_wp2_with ((go_at_call 13; (with_reducible refine (eqTrack_any rn _ _ _ _ rl _).mono ?_); rintro e w' ⟨rfl, k14, rfl⟩))
  go_wp2_with (go_at_call 15; (with_reducible refine (heldTrack_any rn _ _ rl.length _ _ ?_ ?_ ?_).mono ?_); (· omega); (· omega); (· omega); rintro e w' ⟨rfl, k15, rfl⟩)
  all_goals (go_ret; refine ⟨by first | rfl | (simp; done), ?_⟩; (refine Ok.toEx ?_; (repeat (first | (with_reducible exact Ok.rf _) | (with_reducible refine Ok.alloc ?_ _) | (with_reducible refine Ok.ex ?_ _) | (with_reducible refine Ok.drew ?_) | (with_reducible refine Ok.setCellI ?_ _ _ _) | (with_reducible refine Ok.exb ?_ _)))))
end
end Go.Proofs.YtdhflckombkimaaDoor
