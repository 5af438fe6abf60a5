/-
  The law of JoinTracks. Conditions: those typed at each theorem.
-/
import Derived.Test.YtamajnhbfdakfaaTrJt
namespace Go.Proofs.Ytamajnhbfdakfaa
open Go.RowKit
theorem but_set (w : World) (T o : Nat) (v : Value) : But (some ⟨T, 0, none⟩) w (w.setCell ⟨T, o, none⟩ v) :=
  ⟨by rw [size_setCell']; exact Nat.le_refl _, fun x _ hne => Below.heap_setCell _ _ _ _ (fun e => hne 0 (by rw [e]))⟩
section
set_option maxHeartbeats 6400000
set_option maxRecDepth 20000
theorem lJoinTracks (n1 : ByteArray) (A : Option Addr) (c1 : Nat) (a : List Ky) (n2 : ByteArray) (B : Option Addr) (c2 : Nat) (b : List Ky) (gap : Int) (w : World) (ha : Rd 2 kC w A a) (hs1 : n1.size ≤ 9223372036854775807) (hb : Rd 2 kC w B b) (hs2 : n2.size ≤ 9223372036854775807) (_hg : i64' gap) :
    Calls Try.prog 12 #[.agg #[.string n1, .slice A a.length c1], .agg #[.string n2, .slice B b.length c2], .int .i64 gap] w fun e w' => e = .returned (.bool true) ∧ ∃ k : Ex w, w' = k.v := by
  have hs1' : n1.size ≤ maxLen := hs1
  have hs2' : n2.size ≤ maxLen := hs2
  have hlen := ha.len
  have hlenb := hb.len
  obtain ⟨rn, rl, co, hR⟩ : ∃ rn rl co, joinR n1 a n2 b gap = ⟨rn, rl, co⟩ := ⟨_, _, _, rfl⟩
  have hrl : rl.length ≤ 24 := by have h := joinR_len n1 a n2 b gap; rw [hR] at h; exact h
  have HR := hid hR
  clear hR
  go_enter Try.func12, Try.ntmps12
  go_wp2_with ((go_at_call 17; (with_reducible refine (szTrack_any n1 _ _ a _ _ ?_ ?_ ?_).mono ?_); (· omega); (· omega); (· omega); rintro e w' ⟨m, rfl, ⟨m_1, m_2, m_3⟩, k, rfl⟩))
  · (go_ret; refine ⟨by first | rfl | (simp; done), ?_⟩; (refine Ok.toEx ?_; (repeat (first | (with_reducible exact Ok.rf _) | (with_reducible refine Ok.alloc ?_ _) | (with_reducible refine Ok.ex ?_ _) | (with_reducible refine Ok.drew ?_) | (with_reducible refine Ok.setCellI ?_ _ _ _) | (with_reducible refine Ok.exb ?_ _)))))
  obtain ⟨hm4, hm5⟩ := m_3 (by omega)
  clear m_3
  go_wp2_with ((go_at_call 17; (with_reducible refine (szTrack_any n2 _ _ b _ _ ?_ ?_ ?_).mono ?_); (· omega); (· omega); (· omega); rintro e w' ⟨mm, rfl, ⟨mm_1, mm_2, mm_3⟩, k, rfl⟩))
  · (go_ret; refine ⟨by first | rfl | (simp; done), ?_⟩; (refine Ok.toEx ?_; (repeat (first | (with_reducible exact Ok.rf _) | (with_reducible refine Ok.alloc ?_ _) | (with_reducible refine Ok.ex ?_ _) | (with_reducible refine Ok.drew ?_) | (with_reducible refine Ok.setCellI ?_ _ _ _) | (with_reducible refine Ok.exb ?_ _)))))
  obtain ⟨hn4, hn5⟩ := mm_3 (by omega)
  clear mm_3
  go_upto_region 8 with (fail)
  go_cut [8, 9] from 30 to 37 (fun u8 u9 wx => ∃ (T : Nat) (Aw : Option Addr) (cw : Nat), u8 = .pointer (some ⟨T, 0, none⟩) ∧ u9 = .int .i64 co ∧ ∃ j : Ex ((w.alloc (.cells #[.string n1, .slice A a.length c1] 24)).alloc (.cells #[.string n2, .slice B b.length c2] 24)), wx = j.v ∧ j.v.cell? ⟨T, 0, none⟩ = some (.string rn) ∧ j.v.cell? ⟨T, 1, none⟩ = some (.slice Aw rl.length cw) ∧ LtW T j.v ∧ Ow 2 kC j.v Aw rl)
  case first =>
    go_region_held3 (fun W => W.cell? ⟨w.heap.size, 0, none⟩ = some (.string n1) ∧ W.cell? ⟨w.heap.size, 1, none⟩ = some (.slice A a.length c1) ∧ W.cell? ⟨w.heap.size + 1, 0, none⟩ = some (.string n2) ∧ W.cell? ⟨w.heap.size + 1, 1, none⟩ = some (.slice B b.length c2)) ((refine ⟨?_, ?_, ?_, ?_⟩ <;> simp [go_sem])) ((first | (go_at_call 19; (with_reducible refine (toTrack_any n1 _ _ a _ ?_).mono ?_); (· omega); rintro e w' ⟨b1, rfl, k1, rfl, hw1, hb1⟩) | (go_at_call 19; (with_reducible refine (toTrack_any n2 _ _ b _ ?_).mono ?_); (· omega); rintro e w' ⟨b2, rfl, ka, rfl, hw2, hb2⟩) | (go_at_call 43; (with_reducible refine (sJoin_any n1 _ _ a n2 _ _ b gap _ hs1' hm4 hs2' hn4).mono ?_); rw [HR.out]; rintro e w' ⟨Aw, cw, rfl, k2, rfl, how, hfw, hiw⟩)))
    all_goals
      go_wp2_with (fail)
      go_meet
      exact ⟨_, Aw, cw, rfl, rfl, ex_and (fun W => W.cell? _ = some (.string rn) ∧ W.cell? _ = some (.slice Aw rl.length cw) ∧ LtW _ W ∧ Ow 2 kC W Aw rl) (by first | ((refine Ok.toEx ?_; (repeat (first | (with_reducible exact Ok.rf _) | (with_reducible refine Ok.alloc ?_ _) | (with_reducible refine Ok.ex ?_ _) | (with_reducible refine Ok.drew ?_) | (with_reducible refine Ok.setCellI ?_ _ _ _) | (with_reducible refine Ok.exb ?_ _)))); done) | fail) ⟨by simp [go_sem], by simp [go_sem], inferInstance, by first | infer_instance | (have ne := fun b o o' e => ne_blk (o := 0) (p := o') (Nat.ne_of_lt (Nat.lt_of_lt_of_le LtW.h (hfw.h b o none e))); exact Ow.but (Ow.but how (but_set _ _ _ _) ne) (but_set _ _ _ _) ne) | (refine Ow.but (Ow.but how (but_set _ _ _ _) ?_) (but_set _ _ _ _) ?_ <;> exact fun b o o' e => ne_blk (Nat.ne_of_lt (Nat.lt_of_lt_of_le LtW.h (hfw.h b o none e))))⟩⟩
  case rest =>
    obtain ⟨T, Aw, cw, rfl, rfl, j, rfl, t0, t1, lT, how⟩ := hcut
    haveI lT' := lT
    haveI how' := how
    go_wp2_with ((go_at_call 19; (with_reducible refine (toTrack_any n1 _ _ a _ ?_).mono ?_); (· omega); rintro e w' ⟨b3, rfl, k3, rfl, hw3, hb3⟩))
    go_wp2_with ((go_at_call 19; (with_reducible refine (toTrack_any n2 _ _ b _ ?_).mono ?_); (· omega); rintro e w' ⟨b4, rfl, k4, rfl, hw4, hb4⟩))
    go_wp2_with ((go_at_call 44; (with_reducible refine (iJoin_any n1 _ _ a n2 _ _ b gap _ hs1' hm4 hs2' hn4).mono ?_); rw [HR.out]; rintro e w' ⟨Ag, cg, rfl, k5, rfl, hog, hfg, hig⟩))
    go_wp2_with ((go_at_call 21; (with_reducible refine (eqTrack_any rn _ _ _ _ rl _).mono ?_); rintro e w' ⟨rfl, k6, rfl⟩))
    (go_region_held3 (fun W => W.cell? ⟨k3.v.heap.size, 0, none⟩ = some (.string n1) ∧ W.cell? ⟨k3.v.heap.size, 1, none⟩ = some (.slice (some ⟨b3, 0, none⟩) a.length a.length) ∧ W.cell? ⟨w.heap.size, 0, none⟩ = some (.string n1) ∧ W.cell? ⟨w.heap.size, 1, none⟩ = some (.slice A a.length c1)) ((refine ⟨?_, ?_, ?_, ?_⟩ <;> simp [go_sem])) ((first | (go_at_call 19; (with_reducible refine (toTrack_any n1 _ _ a _ ?_).mono ?_); (· omega); rintro e w' ⟨b5, rfl, k7, rfl, hwx, hbx⟩) | (go_at_call 21; (with_reducible refine (eqTrack_any n1 _ _ _ _ a _).mono ?_); rintro e w' ⟨rfl, kx, rfl⟩))))
    go_wp2
    (go_region_held3 (fun W => W.cell? ⟨k4.v.heap.size, 0, none⟩ = some (.string n2) ∧ W.cell? ⟨k4.v.heap.size, 1, none⟩ = some (.slice (some ⟨b4, 0, none⟩) b.length b.length) ∧ W.cell? ⟨w.heap.size + 1, 0, none⟩ = some (.string n2) ∧ W.cell? ⟨w.heap.size + 1, 1, none⟩ = some (.slice B b.length c2)) ((refine ⟨?_, ?_, ?_, ?_⟩ <;> simp [go_sem])) ((first | (go_at_call 19; (with_reducible refine (toTrack_any n2 _ _ b _ ?_).mono ?_); (· omega); rintro e w' ⟨b6, rfl, k8, rfl, hwx, hbx⟩) | (go_at_call 21; (with_reducible refine (eqTrack_any n2 _ _ _ _ b _).mono ?_); rintro e w' ⟨rfl, kx, rfl⟩))))
    haveI hl3 := hw3.lt
    haveI hl4 := hw4.lt
    have q1 := hl3.h
    have q2 := hb3.h
    have q3 := hl4.h
    have q4 := hb4.h
    have q5 := (inferInstance : LtW k4.v.heap.size k5.v).h
    simp only [World.size_alloc] at q2 q4
    have q6 : ∀ b o, Ag = some ⟨b, o, none⟩ → k4.v.heap.size < b := fun b o e => by have := hfg.h _ _ _ e; simp at this; omega
    have q7 : ∀ b o, Ag = some ⟨b, o, none⟩ → b < k5.v.heap.size := fun b o e => hig _ _ _ e
    haveI r3 : LeB j.v.heap.size b3 := ⟨by omega⟩
    haveI r4 : LeB j.v.heap.size b4 := ⟨by omega⟩
    have n34 : b3 ≠ b4 := by omega
    have nA3 : ∀ b o o', Ag = some ⟨b, o, none⟩ → some (⟨b3, 0, none⟩ : Addr) ≠ some ⟨b, o', none⟩ := fun b o o' e => ne_blk (by have := q6 b o e; omega)
    have nA4 : ∀ b o o', Ag = some ⟨b, o, none⟩ → some (⟨b4, 0, none⟩ : Addr) ≠ some ⟨b, o', none⟩ := fun b o o' e => ne_blk (by have := q6 b o e; omega)
    have n43 : ∀ b o o', some (⟨b4, 0, none⟩ : Addr) = some ⟨b, o, none⟩ → some (⟨b3, 0, none⟩ : Addr) ≠ some ⟨b, o', none⟩ := fun b o o' e => by cases e; exact ne_blk n34
    have hag5 : ∀ o, Ag ≠ some ⟨k5.v.heap.size, o, none⟩ := fun o e => by have := q7 _ _ e; omega
    haveI hfg2 : Fr j.v Ag := hfg.mono
    haveI how3 : Ow 2 kC kx.v (some ⟨b3, 0, none⟩) a := inferInstance
    have hin3 : Inw kx.v (some ⟨b3, 0, none⟩) := fun b o m e => by cases e; exact (inferInstance : LtW b3 kx.v).h
    go_wp2_with (go_at_call 35; (with_reducible refine (markTrack_any n1 j.v _ _ a _ _ ?_ ?_ ?_ ?_).mono ?_); (· exact hin3); (· omega); (· omega); (· omega); rintro e w' ⟨rfl, k9, rfl, ho9, hb9⟩; have e0 := hb9.cell (b := k5.v.heap.size) (fun o => ne_blk (by omega)) 0 (u := .string rn) (by simp [go_sem]); have e1 := hb9.cell (b := k5.v.heap.size) (fun o => ne_blk (by omega)) 1 (u := .slice Ag rl.length cg) (by simp [go_sem]); have e2 := hb9.cell (b := k4.v.heap.size) (fun o => ne_blk (by omega)) 0 (u := .string n2) (by simp [go_sem]); have e3 := hb9.cell (b := k4.v.heap.size) (fun o => ne_blk (by omega)) 1 (u := .slice (some ⟨b4, 0, none⟩) b.length b.length) (by simp [go_sem]); haveI f0 : LtW k5.v.heap.size k9.v := hb9.lt; haveI f2 : LtW k4.v.heap.size k9.v := hb9.lt; haveI f3 : LtW b4 k9.v := hb9.lt; haveI hog9 : Ow 2 kC k9.v Ag rl := Ow.but (inferInstanceAs (Ow 2 kC kx.v Ag rl)) hb9 nA3; haveI ho49 : Ow 2 kC k9.v (some ⟨b4, 0, none⟩) b := Ow.but (inferInstanceAs (Ow 2 kC kx.v (some ⟨b4, 0, none⟩) b)) hb9 n43)
    have hin4 : Inw k9.v (some ⟨b4, 0, none⟩) := fun b o m e => by cases e; exact (inferInstance : LtW b4 k9.v).h
    go_wp2_with (go_at_call 35; (with_reducible refine (markTrack_any n2 j.v _ _ b _ _ ?_ ?_ ?_ ?_).mono ?_); (· exact hin4); (· omega); (· omega); (· omega); rintro e w' ⟨rfl, k10, rfl, ho10, hb10⟩; have g0 := hb10.cell (b := k5.v.heap.size) (fun o => ne_blk (by omega)) 0 (u := .string rn) (by simp [go_sem, e0]); have g1 := hb10.cell (b := k5.v.heap.size) (fun o => ne_blk (by omega)) 1 (u := .slice Ag rl.length cg) (by simp [go_sem, e1]); haveI f4 : LtW k5.v.heap.size k10.v := hb10.lt; haveI hog10 : Ow 2 kC k10.v Ag rl := Ow.but (inferInstanceAs (Ow 2 kC k9.v Ag rl)) hb10 nA4)
    go_wp2_with ((go_at_call 21; (with_reducible refine (eqTrack_any rn _ _ _ _ rl _).mono ?_); rintro e w' ⟨rfl, k11, rfl⟩))
    haveI hog11 : Ow 2 kC k11.v Ag rl := inferInstance
    have hin9 : Inw k11.v Ag := fun b o m e => by
      have h1 := hig b o m e
      have h2 := (inferInstance : LtW k5.v.heap.size k11.v).h
      omega
    go_wp2_with (go_at_call 35; (with_reducible refine (markTrack_any rn j.v _ _ rl _ _ ?_ ?_ ?_ ?_).mono ?_); (· exact hin9); (· omega); (· omega); (· omega); rintro e w' ⟨rfl, k12, rfl, ho12, hb12⟩; have u0 := hb12.cell (b := k5.v.heap.size) hag5 0 (u := .string rn) (by simp [go_sem, g0]); have u1 := hb12.cell (b := k5.v.heap.size) hag5 1 (u := .slice Ag rl.length cg) (by simp [go_sem, g1]); haveI f5 : LtW k5.v.heap.size k12.v := hb12.lt)
    go_wp2_with (go_at_call 36; (with_reducible refine (heldTrack_any rn _ _ rl.length _ _ ?_ ?_ ?_).mono ?_); (· omega); (· omega); (· omega); rintro e w' ⟨rfl, k13, rfl⟩)
    go_upto_region 31 with (fail)
    go_cut [17, 18] from 99 to 106 (fun u17 u18 wx => ∃ (T7 : Nat) (Ah : Option Addr) (ch : Nat), u17 = .pointer (some ⟨T7, 0, none⟩) ∧ u18 = .int .i64 co ∧ ∃ j2 : Ex k13.v, wx = j2.v ∧ j2.v.cell? ⟨T7, 0, none⟩ = some (.string rn) ∧ j2.v.cell? ⟨T7, 1, none⟩ = some (.slice Ah rl.length ch) ∧ LtW T7 j2.v ∧ Ow 2 kC j2.v Ah rl)
    case first =>
      go_region_held3 (fun W => W.cell? ⟨w.heap.size, 0, none⟩ = some (.string n1) ∧ W.cell? ⟨w.heap.size, 1, none⟩ = some (.slice A a.length c1) ∧ W.cell? ⟨w.heap.size + 1, 0, none⟩ = some (.string n2) ∧ W.cell? ⟨w.heap.size + 1, 1, none⟩ = some (.slice B b.length c2)) ((refine ⟨?_, ?_, ?_, ?_⟩ <;> simp [go_sem])) ((first | (go_at_call 19; (with_reducible refine (toTrack_any n1 _ _ a _ ?_).mono ?_); (· omega); rintro e w' ⟨b7, rfl, k14, rfl, hw7, hb7⟩) | (go_at_call 19; (with_reducible refine (toTrack_any n2 _ _ b _ ?_).mono ?_); (· omega); rintro e w' ⟨b8, rfl, k15, rfl, hw8, hb8⟩) | (go_at_call 44; (with_reducible refine (iJoin_any n1 _ _ a n2 _ _ b gap _ hs1' hm4 hs2' hn4).mono ?_); rw [HR.out]; rintro e w' ⟨Ah, ch, rfl, k16, rfl, hoh, hfh, hih⟩)))
      all_goals
        go_wp2_with (fail)
        go_meet
        exact ⟨_, Ah, ch, rfl, rfl, ex_and (fun W => W.cell? _ = some (.string rn) ∧ W.cell? _ = some (.slice Ah rl.length ch) ∧ LtW _ W ∧ Ow 2 kC W Ah rl) (by first | ((refine Ok.toEx ?_; (repeat (first | (with_reducible exact Ok.rf _) | (with_reducible refine Ok.alloc ?_ _) | (with_reducible refine Ok.ex ?_ _) | (with_reducible refine Ok.drew ?_) | (with_reducible refine Ok.setCellI ?_ _ _ _) | (with_reducible refine Ok.exb ?_ _)))); done) | fail) ⟨by simp [go_sem], by simp [go_sem], inferInstance, by first | infer_instance | (have ne := fun b o o' e => ne_blk (o := 0) (p := o') (Nat.ne_of_lt (Nat.lt_of_lt_of_le LtW.h (hfh.h b o none e))); exact Ow.but (Ow.but hoh (but_set _ _ _ _) ne) (but_set _ _ _ _) ne) | (refine Ow.but (Ow.but hoh (but_set _ _ _ _) ?_) (but_set _ _ _ _) ?_ <;> exact fun b o o' e => ne_blk (Nat.ne_of_lt (Nat.lt_of_lt_of_le LtW.h (hfh.h b o none e))))⟩⟩
    case rest =>
      obtain ⟨T7, Ah, ch, rfl, rfl, j2, rfl, v0, v1, lT7, hoh⟩ := hcut
      haveI lT7' := lT7
      haveI hoh' := hoh
      go_wp2_with ((go_at_call 21; (with_reducible refine (eqTrack_any rn _ _ _ _ rl _).mono ?_); rintro e w' ⟨rfl, k17, rfl⟩))
      go_wp2_with (go_at_call 36; (with_reducible refine (heldTrack_any rn _ _ rl.length _ _ ?_ ?_ ?_).mono ?_); (· omega); (· omega); (· omega); rintro e w' ⟨rfl, k18, rfl⟩)
      all_goals (go_ret; refine ⟨by first | rfl | (simp; done), ?_⟩; (refine Ok.toEx ?_; (repeat (first | (with_reducible exact Ok.rf _) | (with_reducible refine Ok.alloc ?_ _) | (with_reducible refine Ok.ex ?_ _) | (with_reducible refine Ok.drew ?_) | (with_reducible refine Ok.setCellI ?_ _ _ _) | (with_reducible refine Ok.exb ?_ _)))))
end
end Go.Proofs.Ytamajnhbfdakfaa
