/-
  The law of SetKey. Conditions: those typed at each theorem.
-/
import Derived.Test.YtebapdgajjimpaaTrSs
import Derived.Test.YtebapdgajjimpaaTrSi
namespace Go.Proofs.Ytebapdgajjimpaa
open Go.RowKit
theorem but_setS (w : World) (T o : Nat) (v : Value) : But (some ⟨T, 0, none⟩) w (w.setCell ⟨T, o, none⟩ v) :=
  ⟨by rw [size_setCell']; exact Nat.le_refl _, fun x _ hne => Below.heap_setCell _ _ _ _ (fun e => hne 0 (by rw [e]))⟩
section
set_option maxHeartbeats 6400000
set_option maxRecDepth 20000
theorem lSetKey (nm : ByteArray) (A : Option Addr) (c : Nat) (l : List Ky) (x : Ky) (w : World) (hl : Rd 2 kC w A l) (hs : nm.size ≤ 9223372036854775807) (_ht : i64' x.t ∧ i64' x.v) :
    Calls Try.prog 3 #[.agg #[.string nm, .slice A l.length c], .agg #[.int .i64 x.t, .int .i64 x.v]] w fun e w' => e = .returned (.bool true) ∧ ∃ k : Ex w, w' = k.v := by
  have hs' : nm.size ≤ maxLen := hs
  have hlen := hl.len
  obtain ⟨rn, rl, co, hR⟩ : ∃ rn rl co, stR nm l x = ⟨rn, rl, co⟩ := ⟨_, _, _, rfl⟩
  have hrl : rl.length ≤ 24 := by have h := stR_len nm l x; rw [hR] at h; exact h
  have HR := hid hR
  clear hR
  go_enter Try.func3, Try.ntmps3
  go_wp2_with ((go_at_call 5; (with_reducible refine (szTrack_any nm _ _ l _ _ ?_ ?_ ?_).mono ?_); (· omega); (· omega); (· omega); rintro e w' ⟨m, rfl, ⟨m_1, m_2, m_3⟩, k, rfl⟩))
  · (go_ret; refine ⟨by first | rfl | (simp; done), ?_⟩; (refine Ok.toEx ?_; (repeat (first | (with_reducible exact Ok.rf _) | (with_reducible refine Ok.alloc ?_ _) | (with_reducible refine Ok.ex ?_ _) | (with_reducible refine Ok.drew ?_) | (with_reducible refine Ok.setCellI ?_ _ _ _) | (with_reducible refine Ok.exb ?_ _)))))
  obtain ⟨hm4, hm5⟩ := m_3 (by omega)
  clear m_3
  go_upto_region 5 with (fail)
  go_cut [6, 7] from 21 to 28 (fun u8 u9 wx => ∃ (T : Nat) (Aw : Option Addr) (cw : Nat), u8 = .pointer (some ⟨T, 0, none⟩) ∧ u9 = .int .i64 co ∧ ∃ j : Ex ((w.alloc (.cells #[.string nm, .slice A l.length c] 24)).alloc (.cells #[.int .i64 x.t, .int .i64 x.v] 26)), wx = j.v ∧ j.v.cell? ⟨T, 0, none⟩ = some (.string rn) ∧ j.v.cell? ⟨T, 1, none⟩ = some (.slice Aw rl.length cw) ∧ LtW T j.v ∧ Ow 2 kC j.v Aw rl)
  case first =>
    go_region_held3 (fun W => W.cell? ⟨w.heap.size, 0, none⟩ = some (.string nm) ∧ W.cell? ⟨w.heap.size, 1, none⟩ = some (.slice A l.length c) ∧ W.cell? ⟨w.heap.size + 1, 0, none⟩ = some (.int .i64 x.t) ∧ W.cell? ⟨w.heap.size + 1, 1, none⟩ = some (.int .i64 x.v)) ((refine ⟨?_, ?_, ?_, ?_⟩ <;> simp [go_sem])) ((first | (go_at_call 7; (with_reducible refine (toTrack_any nm _ _ l _ ?_).mono ?_); (· omega); rintro e w' ⟨b1, rfl, k1, rfl, hw1, hb1⟩) | (go_at_call 8; refine (toKey_any _ _).mono ?_; rintro e w' ⟨rfl, k, rfl⟩) | (go_at_call 6; (with_reducible refine (sSet_any nm _ _ l x _ hs' hm4).mono ?_); rw [HR.out]; rintro e w' ⟨Aw, cw, rfl, k2, rfl, how, hfw, hiw⟩)))
    all_goals
      go_wp2_with (fail)
      go_meet
      exact ⟨_, Aw, cw, rfl, rfl, ex_and (fun W => W.cell? _ = some (.string rn) ∧ W.cell? _ = some (.slice Aw rl.length cw) ∧ LtW _ W ∧ Ow 2 kC W Aw rl) (by first | ((refine Ok.toEx ?_; (repeat (first | (with_reducible exact Ok.rf _) | (with_reducible refine Ok.alloc ?_ _) | (with_reducible refine Ok.ex ?_ _) | (with_reducible refine Ok.drew ?_) | (with_reducible refine Ok.setCellI ?_ _ _ _) | (with_reducible refine Ok.exb ?_ _)))); done) | fail) ⟨by simp [go_sem], by simp [go_sem], inferInstance, (by first | infer_instance | (have ne := fun b o o' e => ne_blk (o := 0) (p := o') (Nat.ne_of_lt (Nat.lt_of_lt_of_le LtW.h (hfw.h b o none e))); exact Ow.but (Ow.but how (but_setS _ _ _ _) ne) (but_setS _ _ _ _) ne) | (refine Ow.but (Ow.but how (but_setS _ _ _ _) ?_) (but_setS _ _ _ _) ?_ <;> exact fun b o o' e => ne_blk (Nat.ne_of_lt (Nat.lt_of_lt_of_le LtW.h (hfw.h b o none e)))))⟩⟩
  case rest =>
    obtain ⟨T, Aw, cw, rfl, rfl, j, rfl, t0, t1, lT, how⟩ := hcut
    haveI lT' := lT
    haveI how' := how
    go_wp2_with ((go_at_call 7; (with_reducible refine (toTrack_any nm _ _ l _ ?_).mono ?_); (· omega); rintro e w' ⟨b2, rfl, k3, rfl, hw2, hb2⟩))
    haveI hl2 := hw2.lt
    have q1 := hl2.h
    have q2 := hb2.h
    haveI hb2k : LtW b2 k3.v := hw2.lt
    haveI hk31 : LeB (k3.v.alloc (.cells #[.string nm, .slice (some ⟨b2, 0, none⟩) l.length l.length] 30)).heap.size (k3.v.heap.size + 1) := ⟨by simp⟩
    go_cut [9, 10] from 31 to 37 (fun u8 u9 wx => ∃ (T : Nat) (Ag : Option Addr) (cg : Nat), u8 = .pointer (some ⟨T, 0, none⟩) ∧ u9 = .int .i64 co ∧ ∃ j : Ex (k3.v.alloc (.cells #[.string nm, .slice (some ⟨b2, 0, none⟩) l.length l.length] 30)), wx = j.v ∧ j.v.cell? ⟨T, 0, none⟩ = some (.string rn) ∧ j.v.cell? ⟨T, 1, none⟩ = some (.slice Ag rl.length cg) ∧ LtW T j.v ∧ Ow 2 kC j.v Ag rl ∧ k3.v.heap.size < T ∧ (∀ b o (m : Option Nat), Ag = some ⟨b, o, m⟩ → k3.v.heap.size < b ∧ b < j.v.heap.size ∧ T ≠ b))
    case first =>
      go_region_held3 (fun W => W.cell? ⟨k3.v.heap.size, 0, none⟩ = some (.string nm) ∧ W.cell? ⟨k3.v.heap.size, 1, none⟩ = some (.slice (some ⟨b2, 0, none⟩) l.length l.length) ∧ W.cell? ⟨w.heap.size + 1, 0, none⟩ = some (.int .i64 x.t) ∧ W.cell? ⟨w.heap.size + 1, 1, none⟩ = some (.int .i64 x.v)) ((refine ⟨?_, ?_, ?_, ?_⟩ <;> simp [go_sem])) ((first | (go_at_call 8; refine (toKey_any _ _).mono ?_; rintro e w' ⟨rfl, k, rfl⟩) | (go_at_call 9; (with_reducible refine (iSet_any nm _ _ l x _ hs' hm4).mono ?_); rw [HR.out]; rintro e w' ⟨Ag, cg, rfl, k4, rfl, hog, hfg, hig⟩)))
      all_goals
        go_wp2_with (fail)
        go_meet
        have a1 := (inferInstance : LtW k3.v.heap.size k.v).h
        have a2 := k4.size
        try simp only [World.size_alloc] at a2
        refine ⟨_, Ag, cg, rfl, rfl, ex_and (fun W => W.cell? _ = some (.string rn) ∧ W.cell? _ = some (.slice Ag rl.length cg) ∧ LtW _ W ∧ Ow 2 kC W Ag rl ∧ _ ∧ (∀ b o (m : Option Nat), Ag = some ⟨b, o, m⟩ → k3.v.heap.size < b ∧ b < W.heap.size ∧ _ ≠ b)) (by first | ((refine Ok.toEx ?_; (repeat (first | (with_reducible exact Ok.rf _) | (with_reducible refine Ok.alloc ?_ _) | (with_reducible refine Ok.ex ?_ _) | (with_reducible refine Ok.drew ?_) | (with_reducible refine Ok.setCellI ?_ _ _ _) | (with_reducible refine Ok.exb ?_ _)))); done) | fail) ⟨by simp [go_sem], by simp [go_sem], inferInstance, (by first | infer_instance | (have ne := fun b o o' e => ne_blk (o := 0) (p := o') (Nat.ne_of_lt (Nat.lt_of_lt_of_le LtW.h (hfg.h b o none e))); exact Ow.but (Ow.but hog (but_setS _ _ _ _) ne) (but_setS _ _ _ _) ne) | (refine Ow.but (Ow.but hog (but_setS _ _ _ _) ?_) (but_setS _ _ _ _) ?_ <;> exact fun b o o' e => ne_blk (Nat.ne_of_lt (Nat.lt_of_lt_of_le LtW.h (hfg.h b o none e))))), ?_, ?_⟩⟩
        · omega
        · intro b o m e
          have h1 := hfg.h b o m e
          have h2 := hig b o m e
          try simp only [World.size_alloc] at h1
          refine ⟨by omega, by simp; omega, ?_⟩
          first | omega | (have a3 := (inferInstance : LtW (k3.v.heap.size + 1) k.v).h; omega)
    case rest =>
      obtain ⟨T2, Ag, cg, rfl, rfl, j2, rfl, u0, u1, lT2, hog, hkT, hfg⟩ := hcut
      haveI lT2' := lT2
      haveI hog' := hog
      go_wp2_with ((go_at_call 10; (with_reducible refine (eqTrack_any rn _ _ _ _ rl _).mono ?_); rintro e w' ⟨rfl, k5, rfl⟩))
      (go_region_held3 (fun W => W.cell? ⟨k3.v.heap.size, 0, none⟩ = some (.string nm) ∧ W.cell? ⟨k3.v.heap.size, 1, none⟩ = some (.slice (some ⟨b2, 0, none⟩) l.length l.length) ∧ W.cell? ⟨w.heap.size, 0, none⟩ = some (.string nm) ∧ W.cell? ⟨w.heap.size, 1, none⟩ = some (.slice A l.length c)) ((refine ⟨?_, ?_, ?_, ?_⟩ <;> simp [go_sem])) ((first | (go_at_call 7; (with_reducible refine (toTrack_any nm _ _ l _ ?_).mono ?_); (· omega); rintro e w' ⟨b3, rfl, k6, rfl, hwx, hbx⟩) | (go_at_call 10; (with_reducible refine (eqTrack_any nm _ _ _ _ l _).mono ?_); rintro e w' ⟨rfl, kx, rfl⟩))))
      have p1 := (inferInstance : LtW k3.v.heap.size j2.v).h
      have p2 := lT.h
      have p3 := (inferInstance : LtW T k3.v).h
      have p4 := k3.size
      have p5 := lT2.h
      haveI hfg2 : Fr j.v Ag := ⟨fun b o m e => by have := hfg b o m e; omega⟩
      have hbAg : ∀ b o o', Ag = some ⟨b, o, none⟩ → some (⟨b2, 0, none⟩ : Addr) ≠ some ⟨b, o', none⟩ := fun b o o' e => ne_blk (by have := hfg b o none e; omega)
      haveI how2 : Ow 2 kC kx.v (some ⟨b2, 0, none⟩) l := inferInstance
      have hinw : Inw kx.v (some ⟨b2, 0, none⟩) := fun b o m e => by cases e; exact (inferInstance : LtW b2 kx.v).h
      go_wp2_with (go_at_call 11; (with_reducible refine (markTrack_any nm j.v _ _ l _ _ ?_ ?_ ?_ ?_).mono ?_); (· exact hinw); (· omega); (· omega); (· omega); rintro e w' ⟨rfl, k8, rfl, ho8, hb8⟩; have e0 := hb8.cell (b := T2) (fun o => ne_blk (by omega)) 0 (u := .string rn) (by simp [go_sem, u0]); have e1 := hb8.cell (b := T2) (fun o => ne_blk (by omega)) 1 (u := .slice Ag rl.length cg) (by simp [go_sem, u1]); haveI e4 : LtW T2 k8.v := hb8.lt; haveI hog8 : Ow 2 kC k8.v Ag rl := Ow.but (inferInstanceAs (Ow 2 kC kx.v Ag rl)) hb8 hbAg)
      go_wp2_with ((go_at_call 10; (with_reducible refine (eqTrack_any rn _ _ _ _ rl _).mono ?_); rintro e w' ⟨rfl, k9, rfl⟩))
      haveI how9 : Ow 2 kC k9.v Ag rl := inferInstance
      have p6 := (inferInstance : LeB j2.v.heap.size kx.v.heap.size).h
      have hinw9 : Inw k9.v Ag := fun b o m e => by
        have h1 := (hfg b o m e).2.1
        have h2 := hb8.size
        have h3 := k9.size
        omega
      have hagT : ∀ o, Ag ≠ some ⟨T2, o, none⟩ := fun o e => by have := (hfg _ _ _ e).2.2; omega
      go_wp2_with (go_at_call 11; (with_reducible refine (markTrack_any rn j.v _ _ rl _ _ ?_ ?_ ?_ ?_).mono ?_); (· exact hinw9); (· omega); (· omega); (· omega); rintro e w' ⟨rfl, k10, rfl, ho10, hb10⟩; have v0 := hb10.cell (b := T2) hagT 0 (u := .string rn) (by simp [go_sem, e0]); have v1 := hb10.cell (b := T2) hagT 1 (u := .slice Ag rl.length cg) (by simp [go_sem, e1]); haveI v4 : LtW T2 k10.v := hb10.lt)
      go_wp2_with (go_at_call 12; (with_reducible refine (heldTrack_any rn _ _ rl.length _ _ ?_ ?_ ?_).mono ?_); (· omega); (· omega); (· omega); rintro e w' ⟨rfl, k11, rfl⟩)
      go_upto_region 24 with (fail)
      go_cut [14, 15] from 79 to 86 (fun u17 u18 wx => ∃ (T7 : Nat) (Ah : Option Addr) (ch : Nat), u17 = .pointer (some ⟨T7, 0, none⟩) ∧ u18 = .int .i64 co ∧ ∃ j2 : Ex k11.v, wx = j2.v ∧ j2.v.cell? ⟨T7, 0, none⟩ = some (.string rn) ∧ j2.v.cell? ⟨T7, 1, none⟩ = some (.slice Ah rl.length ch) ∧ LtW T7 j2.v ∧ Ow 2 kC j2.v Ah rl)
      case first =>
        go_region_held3 (fun W => W.cell? ⟨w.heap.size, 0, none⟩ = some (.string nm) ∧ W.cell? ⟨w.heap.size, 1, none⟩ = some (.slice A l.length c) ∧ W.cell? ⟨w.heap.size + 1, 0, none⟩ = some (.int .i64 x.t) ∧ W.cell? ⟨w.heap.size + 1, 1, none⟩ = some (.int .i64 x.v)) ((refine ⟨?_, ?_, ?_, ?_⟩ <;> simp [go_sem])) ((first | (go_at_call 7; (with_reducible refine (toTrack_any nm _ _ l _ ?_).mono ?_); (· omega); rintro e w' ⟨b7, rfl, k14, rfl, hw7, hb7⟩) | (go_at_call 8; refine (toKey_any _ _).mono ?_; rintro e w' ⟨rfl, k, rfl⟩) | (go_at_call 9; (with_reducible refine (iSet_any nm _ _ l x _ hs' hm4).mono ?_); rw [HR.out]; rintro e w' ⟨Ah, ch, rfl, k16, rfl, hoh, hfh, hih⟩)))
        all_goals
          go_wp2_with (fail)
          go_meet
          exact ⟨_, Ah, ch, rfl, rfl, ex_and (fun W => W.cell? _ = some (.string rn) ∧ W.cell? _ = some (.slice Ah rl.length ch) ∧ LtW _ W ∧ Ow 2 kC W Ah rl) (by first | ((refine Ok.toEx ?_; (repeat (first | (with_reducible exact Ok.rf _) | (with_reducible refine Ok.alloc ?_ _) | (with_reducible refine Ok.ex ?_ _) | (with_reducible refine Ok.drew ?_) | (with_reducible refine Ok.setCellI ?_ _ _ _) | (with_reducible refine Ok.exb ?_ _)))); done) | fail) ⟨by simp [go_sem], by simp [go_sem], inferInstance, (by first | infer_instance | (have ne := fun b o o' e => ne_blk (o := 0) (p := o') (Nat.ne_of_lt (Nat.lt_of_lt_of_le LtW.h (hfh.h b o none e))); exact Ow.but (Ow.but hoh (but_setS _ _ _ _) ne) (but_setS _ _ _ _) ne) | (refine Ow.but (Ow.but hoh (but_setS _ _ _ _) ?_) (but_setS _ _ _ _) ?_ <;> exact fun b o o' e => ne_blk (Nat.ne_of_lt (Nat.lt_of_lt_of_le LtW.h (hfh.h b o none e)))))⟩⟩
      case rest =>
        obtain ⟨T7, Ah, ch, rfl, rfl, j4, rfl, z0, z1, lT7, hoh⟩ := hcut
        haveI lT7' := lT7
        haveI hoh' := hoh
        go_wp2_with ((go_at_call 10; (with_reducible refine (eqTrack_any rn _ _ _ _ rl _).mono ?_); rintro e w' ⟨rfl, k17, rfl⟩))
        go_wp2_with (go_at_call 12; (with_reducible refine (heldTrack_any rn _ _ rl.length _ _ ?_ ?_ ?_).mono ?_); (· omega); (· omega); (· omega); rintro e w' ⟨rfl, k18, rfl⟩)
        all_goals (go_ret; refine ⟨by first | rfl | (simp; done), ?_⟩; (refine Ok.toEx ?_; (repeat (first | (with_reducible exact Ok.rf _) | (with_reducible refine Ok.alloc ?_ _) | (with_reducible refine Ok.ex ?_ _) | (with_reducible refine Ok.drew ?_) | (with_reducible refine Ok.setCellI ?_ _ _ _) | (with_reducible refine Ok.exb ?_ _)))))
end
end Go.Proofs.Ytebapdgajjimpaa
