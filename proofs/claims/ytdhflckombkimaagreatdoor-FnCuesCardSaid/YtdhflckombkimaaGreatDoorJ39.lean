/-
  ReadCue: the reference. Conditions: those typed at each theorem.
  ReadCue: the program. Conditions: those typed at each theorem.
-/
import Derived.Test.YtdhflckombkimaaGreatDoorJ38
import Derived.Test.YtdhflckombkimaaGreatDoorJ37
import Derived.Deep.Cut
import Derived.Deep.CutRange
import Derived.BigQuiet
import Derived.Deep.CutBlock
import Derived.Deep.RegionHeld3
import Derived.Laws.OwnMore
namespace Go.Proofs.YtdhflckombkimaaGreatDoor
open Go.RowKit
/-- the cue x in its own block -/
structure CuW (W : World) (T : Nat) (x : Cu) : Prop where
  lt : LtW T W
  at_ : CuAt W T 0 x
  fz : ∀ o, W.frozen? ⟨T, o, none⟩ = false
section
set_option maxHeartbeats 3200000
set_option maxRecDepth 20000
end
end Go.Proofs.YtdhflckombkimaaGreatDoor
namespace Go.Proofs.YtdhflckombkimaaGreatDoor
open Go.RowKit
section
set_option maxHeartbeats 3200000
set_option maxRecDepth 20000
theorem wd_size {s g : ByteArray} (h : g ∈ wdS s) : g.size ≤ s.size := sp_size (List.mem_filter.1 h).1
theorem wd_len (s : ByteArray) : (wdS s).length ≤ s.size + 1 := Nat.le_trans (List.length_filter_le _ _) (sp_le s)
/-- words[4:] -/
theorem sl4 (b o n c : Nat) (hn : 4 ≤ n) (hc : n ≤ c) : ∃ q, (∀ W : World, (Instr.slice 41 (.slice (some ⟨b, o, none⟩) n c) (some (.int .i64 4)) none none).run Tryz.prog W = .ok (.slice (some ⟨b, q, none⟩) (n - 4) (c - 4)) W) ∧ (4 < n → q = o + 4) := by
  by_cases h : c = 4
  · obtain rfl : n = 4 := by omega
    subst h
    refine ⟨o, fun W => ?_, fun h => absurd h (by omega)⟩
    rw [run_slice_l (P := Tryz.prog) (w := W) (ht := Tryz.underlying41) (h0 := by omega) (h1 := by omega)]
    simp [go_sem, sliced, Program.elem, Tryz.underlying41]
  · refine ⟨o + 4, fun W => ?_, fun _ => rfl⟩
    rw [run_slice_l (P := Tryz.prog) (w := W) (ht := Tryz.underlying41) (h0 := by omega) (h1 := by omega)]
    simp [go_sem, sliced, Program.elem, Tryz.underlying41]
    omega
theorem row_x1 (w : World) (B : Nat) (hB : B ≤ w.heap.size) (x : ByteArray) : (w.alloc (.cells #[.string x] 9)).ownsRow B 9 1 (.slice (some ⟨w.heap.size, 0, none⟩) 1 1) [x].length ([x].flatMap sC) := World.ownsRow_lit w #[.string x] 1 hB (by simp [maxLen]) rfl
theorem rdV_bI (y : ByteArray) : bI (rdV y) := by
  unfold rdV bI
  cases hr : rdD y.data.toList with
  | none => simp
  | some n => have := (rdD_some hr).2; simp only [Option.getD_some]; omega
theorem bIc {n : Int} (h : n = 0 ∨ n = 1 ∨ n = 2 ∨ n = 3) : bI n := by unfold bI; omega
theorem iRead_any (s : ByteArray) (w : World) [Tb w] [Es w] [Er w] [Ml w] (hs : s.size ≤ 1048576) :
    Calls Tryz.prog 12 #[.string s] w fun e w' => e = .returned (.tuple #[(.agg #[.string (rqC s).id, .int .i64 (rqC s).t, .int .i64 (rqC s).ln, .string (rqC s).tg, .int .i64 (rqC s).act, .int .i64 (rqC s).v]), .bool (rqB s)]) ∧ ∃ k : Ex w, w' = k.v := by
  have HT := hid (fun x => isT_num (s := s) (x := x))
  have HZ : Hid (∀ g ∈ wdS s, g.size ≤ 1048576) := hid fun g hg => Nat.le_trans (wd_size hg) hs
  have hle := wd_len s
  by_cases h4 : (wdS s).length < 4
  · have HN := hid (rq_no (s := s) fun ⟨x, hx⟩ => by
      obtain ⟨h1, -, -, h2⟩ := HT.out x hx
      have := cand_len h1
      rw [h2] at h4
      omega)
    have h4i : ((wdS s).length : Int) < 4 := by omega
    clear h4
    go_enter Tryz.func12, Tryz.ntmps12
    go_wp2_with ((go_at_call 28; go_loud ((refine (iSplit_any s _ hs).mono ?_); rintro e w' ⟨A, c, rfl, k, rfl, ho, hcap⟩; haveI ho := ho)))
    refine bodyPost_ret (v := _) (by simp [results, Tryz.results12, go_sem]; rfl) rfl ?_
    refine ⟨by rw [HN.out.1, HN.out.2], ?_⟩
    (refine Ok.toEx ?_; (repeat (first | (with_reducible exact Ok.rf _) | (with_reducible refine Ok.alloc ?_ _) | (with_reducible refine Ok.ex ?_ _) | (with_reducible refine Ok.drew ?_) | (with_reducible refine Ok.setCellI ?_ _ _ _) | (with_reducible refine Ok.exb ?_ _))))
  · have h4i : ¬ ((wdS s).length : Int) < 4 := by omega
    go_enter Tryz.func12, Tryz.ntmps12
    go_upto_region 4 with ((go_at_call 28; go_loud ((refine (iSplit_any s _ hs).mono ?_); rintro e w' ⟨A, c, rfl, k, rfl, ho, hcap⟩; haveI ho := ho)))
    have HA := hid ((inferInstance : Rd 1 sC k.v A (wdS s)).at_)
    have HD0 := hid (inferInstance : Rd 1 sC k.v A (wdS s))
    obtain ⟨L, hL⟩ : ∃ L, wdS s = L := ⟨_, rfl⟩
    rw [hL] at HT HZ hle h4 h4i HA HD0 ho hcap ⊢
    clear hL
    obtain ⟨b, o, rfl, hbw, hc⟩ := HA.out (by omega)
    obtain ⟨x0, x1, x2, x3, r, hLr⟩ := len_four (W := L) (by omega)
    have hlr : L.length = r.length + 4 := by rw [hLr]; simp
    have hat : ∀ (j : Nat) (y : ByteArray), L[j]? = some y → k.v.cell? ⟨b, o + j, none⟩ = some (.string y) := fun j y hj => by
      obtain ⟨hjl, rfl⟩ := List.getElem?_eq_some_iff.1 hj
      have := hc j hjl 0 _ rfl
      simpa using this
    have c0 := hat 0 x0 (by rw [hLr]; rfl)
    have c1 := hat 1 x1 (by rw [hLr]; rfl)
    have c2 := hat 2 x2 (by rw [hLr]; rfl)
    have c3 := hat 3 x3 (by rw [hLr]; rfl)
    rw [Nat.add_zero] at c0
    have HDR : Hid (Rd 1 sC k.v (some ⟨b, o + 4, none⟩) r) := hid (by
      have := Rd.drop HD0.out 4
      rw [hLr] at this
      exact this)
    have HLR := hid hLr
    have HLN := hid hlr
    have ZN : Hid (∀ y ∈ [x1] ++ r, y.size ≤ 1048576) := hid fun y hy => HZ.out y (by rw [hLr]; simp at hy ⊢; rcases hy with h | h; exact .inr (.inl h); exact .inr (.inr (.inr (.inr h))))
    clear hLr hat hc HA HD0
    obtain ⟨q4, hsl4, hq4⟩ := sl4 b o L.length c (by omega) hcap
    have HDQ : Hid (Rd 1 sC k.v (some ⟨b, q4, none⟩) r) := hid (by
      by_cases h0 : r = []
      · rw [h0]; exact Rd.nil
      · have := List.length_pos_iff.2 h0
        rw [hq4 (by omega)]; exact HDR.out)
    clear hq4
    have l1 : (1 : Int) < (L.length : Int) := by omega
    have l4 : (4 : Int) ≤ (L.length : Int) := by omega
    have hl4 : L.length - 4 = r.length := by omega
    have hrb : r.length ≤ 1048573 := by omega
    clear hlr
    go_cut [5, 6] from 14 to 23 (fun u5 u6 wx => ∃ (A6 : Option Addr) (c6 : Nat), u5 = .slice A6 (nuV (x1 :: r)).length c6 ∧ u6 = .bool (nuB (x1 :: r)) ∧ ∃ j : Ex k.v, wx = j.v ∧ Ow 1 iC j.v A6 (nuV (x1 :: r)))
    case first =>
      go_region_held3 (fun W => W.cell? ⟨b, o + 1, none⟩ = some (.string x1)) ((simp [go_sem, c1])) ((first | (go_loud (refine step_appM sC rfl (.tmp 18) (.tmp 20) 41 rfl k.v.heap.size ?_ 9 (.string ⟨#[]⟩) 1 16 Tryz.underlying41 infoStr rfl (by omega) (fun _ => ⟨rfl, by simp [sC, Value.oneCell']⟩) (.slice (some ⟨k.v.heap.size, 0, none⟩) 1 1) [x1] (by simp [Act.eval]) ?_ b q4 r (c - 4) (by simp [Act.eval]) ?_ ?_ ?_ ?_; (· simp); (· exact row_x1 _ _ (Nat.le_refl _) x1); (· haveI := HDQ.out; infer_instance); (· simp; omega); (· simp; omega); intro v2 kk2 hA2; obtain ⟨A2, c5, rfl, hO2, hF2⟩ := Ow.of_row (f := sC) (fun _ => rfl) hA2.own; obtain ⟨k5, hk5⟩ : ∃ k5 : Ex k.v, kk2.v = k5.v := ⟨⟨kk2.v, (((Below.refl _ _).alloc (Nat.le_refl _) _).drew).trans kk2.h⟩, rfl⟩; rw [hk5] at hO2 ⊢; clear hA2; haveI hO2 := hO2)) | (go_at_call 29; go_loud ((refine (iNums_any A2 c5 ([x1] ++ r) _ ?_ ZN).mono ?_); (· simp; omega); rintro e w' ⟨A6, c6, rfl, k6, rfl, ho6⟩; haveI ho6 := ho6))))
      all_goals
        go_wp2_with (fail)
        go_meet
        case rel => exact ⟨A6, c6, rfl, rfl, ex_and (fun W => Ow 1 iC W A6 (nuV (x1 :: r))) (by (refine Ok.toEx ?_; (repeat (first | (with_reducible exact Ok.rf _) | (with_reducible refine Ok.alloc ?_ _) | (with_reducible refine Ok.ex ?_ _) | (with_reducible refine Ok.drew ?_) | (with_reducible refine Ok.setCellI ?_ _ _ _) | (with_reducible refine Ok.exb ?_ _))))) (by first | exact ho6 | infer_instance)⟩
    case rest =>
      obtain ⟨A6, c6, rfl, rfl, j0, rfl, ho6⟩ := hcut
      have HOB : Hid (nuB (x1 :: r) = false → ¬ ∃ x, IsT s x) := hid fun hb ⟨x, hx⟩ => by
        obtain ⟨-, g1, g2, g3⟩ := HT.out x hx
        rw [← g3, HLR.out] at g1 g2
        have g1 : rdO x1 = true := g1
        have g2 : ∀ y ∈ r, rdO y = true := g2
        have : nuB (x1 :: r) = true := List.all_eq_true.2 fun y hy => by
          rcases List.mem_cons.1 hy with rfl | hy
          · exact g1
          · exact g2 y hy
        rw [this] at hb; cases hb
      have HNC : Hid (candW L = none → ∀ x, ¬ IsT s x) := hid fun hb x hx => by
        obtain ⟨g1, -, -, g3⟩ := HT.out x hx
        rw [← g3, hb] at g1; cases g1
      have HSC : Hid (∀ xF, candW L = some xF → ∀ x, IsT s x → xF = x) := hid fun xF hb x hx => by
        obtain ⟨g1, -, -, g3⟩ := HT.out x hx
        rw [← g3, hb] at g1; exact Option.some.inj g1
      have z0 : x0.size ≤ 1048576 := HZ.out x0 (by rw [HLR.out]; simp)
      have z2 : x2.size ≤ 1048576 := HZ.out x2 (by rw [HLR.out]; simp)
      cases hnb : nuB (x1 :: r)
      · have HN := hid (rq_no (HOB.out hnb))
        clear hnb
        haveI ho6 := ho6
        go_wp2_with (fail)
        (refine bodyPost_ret (v := _) (by simp [results, Tryz.results12, go_sem]; rfl) rfl ?_; refine ⟨by rw [HN.out.1, HN.out.2], ?_⟩; (refine Ok.toEx ?_; (repeat (first | (with_reducible exact Ok.rf _) | (with_reducible refine Ok.alloc ?_ _) | (with_reducible refine Ok.ex ?_ _) | (with_reducible refine Ok.drew ?_) | (with_reducible refine Ok.setCellI ?_ _ _ _) | (with_reducible refine Ok.exb ?_ _)))))
      · have HNV : Hid (nuV (x1 :: r) = (x1 :: r).map rdV) := hid (by unfold nuV; rw [if_pos hnb])
        rw [HNV.out] at ho6 ⊢
        clear hnb HNV HOB
        obtain ⟨ms, hms⟩ : ∃ ms, (x1 :: r).map rdV = ms := ⟨_, rfl⟩
        rw [hms] at ho6 ⊢
        have hml : ms.length = r.length + 1 := by rw [← hms]; simp
        obtain ⟨g, rfl, hwr⟩ := ho6.own (by omega)
        haveI hgl := hwr.lt
        obtain ⟨b9, o9, e9, hb9, hc9⟩ := (inferInstance : Rd 1 iC j0.v (some ⟨g, 0, none⟩) ms).at_ (by omega)
        cases e9
        have HG : Hid (∀ (i : Nat) (n : Int), ms[i]? = some n → j0.v.cell? ⟨g, i, none⟩ = some (.int .i64 n)) := hid fun i n h => by
          obtain ⟨hi, rfl⟩ := List.getElem?_eq_some_iff.1 h
          have := hc9 i hi 0 _ rfl
          simpa using this
        have HMS := hid hms
        have HML := hid hml
        have m0 := HG.out 0 (rdV x1) (by rw [← hms]; rfl)
        have l0m : (0 : Int) < (ms.length : Int) := by omega
        have l0 : (0 : Int) < (L.length : Int) := by omega
        have lN : 0 < L.length := by omega
        have lE : L ≠ [] := List.length_pos_iff.1 lN
        have mN : 0 < ms.length := by omega
        have mE : ms ≠ [] := List.length_pos_iff.1 mN
        have l2 : (2 : Int) < (L.length : Int) := by omega
        have l3 : (3 : Int) < (L.length : Int) := by omega
        clear hwr hc9 ho6 hms hml hrb hl4
        have HDR := 0
        have HDQ := 0
        clear HDR HDQ hsl4 ZN
        go_upto_region 7 with (fail)
        go_cut [7] from 28 to 37 (fun u7 wx => u7 = .pointer (some ⟨j0.v.heap.size, 0, none⟩) ∧ ∃ j : Ex j0.v, wx = j.v ∧ CuW j.v j0.v.heap.size ⟨x0, rdV x1, 0, x2, 0, 0⟩)
        case first =>
          go_region_held3 (fun W => W.cell? ⟨b, o, none⟩ = some (.string x0) ∧ W.cell? ⟨b, o + 2, none⟩ = some (.string x2) ∧ W.cell? ⟨g, 0, none⟩ = some (.int .i64 (rdV x1))) ((refine ⟨?_, ?_, ?_⟩ <;> simp [go_sem, c0, c2, m0])) ((fail))
          all_goals
            go_wp2_with (fail)
            go_meet
            case rel => exact ⟨rfl, ex_and (fun W => CuW W j0.v.heap.size ⟨x0, rdV x1, 0, x2, 0, 0⟩) (by (refine Ok.toEx ?_; (repeat (first | (with_reducible exact Ok.rf _) | (with_reducible refine Ok.alloc ?_ _) | (with_reducible refine Ok.ex ?_ _) | (with_reducible refine Ok.drew ?_) | (with_reducible refine Ok.setCellI ?_ _ _ _) | (with_reducible refine Ok.exb ?_ _))))) ⟨inferInstance, ⟨by simp [go_sem], by simp [go_sem], by simp [go_sem], by simp [go_sem], by simp [go_sem], by simp [go_sem]⟩, fun o => by simp [go_sem]⟩⟩
        case rest =>
        obtain ⟨rfl, j1, rfl, hcw⟩ := hcut
        have HW := hid hcw
        obtain ⟨hlt, ⟨d0, d1, d2, d3, d4, d5⟩, hfz⟩ := hcw
        have f2 := hfz 2
        have f4 := hfz 4
        have f5 := hfz 5
        clear hfz
        have e3 : x3.toList = x3.data.toList := ByteArray.toList_eq ..
        have HC1 : Hid (x3.toList = [115, 101, 116] → r.length = 1 → candW L = some ⟨x0, rdV x1, 0, x2, 1, rdV (r.getD 0 ⟨#[]⟩)⟩) := hid fun a n => by rw [HLR.out, cand_cons, if_pos ⟨e3.symm.trans a, n⟩]
        have HC2 : Hid (x3.toList = [102, 97, 100, 101] → r.length = 2 → candW L = some ⟨x0, rdV x1, rdV (r.getD 1 ⟨#[]⟩), x2, 2, rdV (r.getD 0 ⟨#[]⟩)⟩) := hid fun a n => by rw [HLR.out, cand_cons, if_neg (fun h => by omega), if_pos ⟨e3.symm.trans a, n⟩]
        have HC3 : Hid (x3.toList = [115, 116, 111, 112] → r.length = 0 → candW L = some ⟨x0, rdV x1, 0, x2, 3, 0⟩) := hid fun a n => by rw [HLR.out, cand_cons, if_neg (fun h => by omega), if_neg (fun h => by omega), if_pos ⟨e3.symm.trans a, n⟩]
        have HC0 : Hid (¬ (x3.toList = [115, 101, 116] ∧ r.length = 1) → ¬ (x3.toList = [102, 97, 100, 101] ∧ r.length = 2) → ¬ (x3.toList = [115, 116, 111, 112] ∧ r.length = 0) → candW L = none) := hid fun a b c => by rw [HLR.out, cand_cons, if_neg (fun h => a ⟨e3.trans h.1, h.2⟩), if_neg (fun h => b ⟨e3.trans h.1, h.2⟩), if_neg (fun h => c ⟨e3.trans h.1, h.2⟩)]
        clear e3
        go_upto_block 0 with (fail)
        go_cut [] from 38 to 77 (fun wx => ∃ xF : Cu, (∀ x, IsT s x → xF = x) ∧ (bI xF.t ∧ bI xF.ln ∧ bI xF.act ∧ bI xF.v) ∧ xF.id = x0 ∧ xF.tg = x2 ∧ ∃ j : Ex j0.v, wx = j.v ∧ CuW j.v j0.v.heap.size xF)
        case first =>
          have hmr := HML.out
          by_cases p1 : x3.toList = [115, 101, 116]
          · by_cases n1 : r.length = 1
            · have HX := hid (HSC.out _ (HC1.out p1 n1))
              obtain ⟨v, rfl⟩ := len_one n1
              have n1i : (ms.length : Int) = 2 := by omega
              have l1m : (1 : Int) < (ms.length : Int) := by omega
              have m1 := HG.out 1 (rdV v) (by rw [← HMS.out]; rfl)
              clear n1 hmr
              go_wp2_with (fail)
              go_region_held3 (fun W => W.cell? ⟨g, 1, none⟩ = some (.int .i64 (rdV v))) ((simp [go_sem, m1])) ((fail))
              all_goals
                go_wp2_with (fail)
                go_meet
                case rel => (refine ⟨⟨x0, rdV x1, 0, x2, 1, rdV v⟩, HX.out, ⟨rdV_bI _, bIc (by first | exact .inl rfl | exact .inr (.inl rfl) | exact .inr (.inr (.inl rfl)) | exact .inr (.inr (.inr rfl))), bIc (by first | exact .inl rfl | exact .inr (.inl rfl) | exact .inr (.inr (.inl rfl)) | exact .inr (.inr (.inr rfl))), rdV_bI _⟩, rfl, rfl, ex_and (fun W => CuW W j0.v.heap.size ⟨x0, rdV x1, 0, x2, 1, rdV v⟩) ?_ ⟨inferInstance, ⟨by simp [go_sem, d0], by simp [go_sem, d1], by simp [go_sem, d2], by simp [go_sem, d3], by simp [go_sem, d4], by simp [go_sem, d5]⟩, fun o => by have := HW.out.fz o; simp [go_sem, this]⟩⟩; (refine Ok.toEx ?_; (repeat (first | (with_reducible exact Ok.rf _) | (with_reducible refine Ok.alloc ?_ _) | (with_reducible refine Ok.ex ?_ _) | (with_reducible refine Ok.drew ?_) | (with_reducible refine Ok.setCellI ?_ _ _ _) | (with_reducible refine Ok.exb ?_ _)))))
            · have n1i : ¬ (ms.length : Int) = 2 := by omega
              have p2 : ¬ x3.toList = [102, 97, 100, 101] := by rw [p1]; decide
              have p3 : ¬ x3.toList = [115, 116, 111, 112] := by rw [p1]; decide
              (clear hmr; have HXN := hid (HNC.out (HC0.out (fun h => n1 h.2) (fun h => p2 h.1) (fun h => p3 h.1))); go_wp2_with (fail); go_meet; case rel => (refine ⟨⟨x0, rdV x1, 0, x2, 0, 0⟩, (fun x hx => absurd hx (HXN.out x)), ⟨rdV_bI _, bIc (by first | exact .inl rfl | exact .inr (.inl rfl) | exact .inr (.inr (.inl rfl)) | exact .inr (.inr (.inr rfl))), bIc (by first | exact .inl rfl | exact .inr (.inl rfl) | exact .inr (.inr (.inl rfl)) | exact .inr (.inr (.inr rfl))), bIc (by first | exact .inl rfl | exact .inr (.inl rfl) | exact .inr (.inr (.inl rfl)) | exact .inr (.inr (.inr rfl)))⟩, rfl, rfl, ex_and (fun W => CuW W j0.v.heap.size ⟨x0, rdV x1, 0, x2, 0, 0⟩) ?_ ⟨inferInstance, ⟨by simp [go_sem, d0], by simp [go_sem, d1], by simp [go_sem, d2], by simp [go_sem, d3], by simp [go_sem, d4], by simp [go_sem, d5]⟩, fun o => by have := HW.out.fz o; simp [go_sem, this]⟩⟩; (refine Ok.toEx ?_; (repeat (first | (with_reducible exact Ok.rf _) | (with_reducible refine Ok.alloc ?_ _) | (with_reducible refine Ok.ex ?_ _) | (with_reducible refine Ok.drew ?_) | (with_reducible refine Ok.setCellI ?_ _ _ _) | (with_reducible refine Ok.exb ?_ _))))))
          · by_cases p2 : x3.toList = [102, 97, 100, 101]
            · by_cases n2 : r.length = 2
              · have HX := hid (HSC.out _ (HC2.out p2 n2))
                obtain ⟨v, u, rfl⟩ := len_two n2
                have n2i : (ms.length : Int) = 3 := by omega
                have l1m : (1 : Int) < (ms.length : Int) := by omega
                have l2m : (2 : Int) < (ms.length : Int) := by omega
                have m1 := HG.out 1 (rdV v) (by rw [← HMS.out]; rfl)
                have m2 := HG.out 2 (rdV u) (by rw [← HMS.out]; rfl)
                clear n2 hmr
                go_wp2_with (fail)
                go_region_held3 (fun W => W.cell? ⟨g, 1, none⟩ = some (.int .i64 (rdV v)) ∧ W.cell? ⟨g, 2, none⟩ = some (.int .i64 (rdV u))) ((refine ⟨?_, ?_⟩ <;> simp [go_sem, m1, m2])) ((fail))
                all_goals
                  go_wp2_with (fail)
                  go_meet
                  case rel => (refine ⟨⟨x0, rdV x1, rdV u, x2, 2, rdV v⟩, HX.out, ⟨rdV_bI _, rdV_bI _, bIc (by first | exact .inl rfl | exact .inr (.inl rfl) | exact .inr (.inr (.inl rfl)) | exact .inr (.inr (.inr rfl))), rdV_bI _⟩, rfl, rfl, ex_and (fun W => CuW W j0.v.heap.size ⟨x0, rdV x1, rdV u, x2, 2, rdV v⟩) ?_ ⟨inferInstance, ⟨by simp [go_sem, d0], by simp [go_sem, d1], by simp [go_sem, d2], by simp [go_sem, d3], by simp [go_sem, d4], by simp [go_sem, d5]⟩, fun o => by have := HW.out.fz o; simp [go_sem, this]⟩⟩; (refine Ok.toEx ?_; (repeat (first | (with_reducible exact Ok.rf _) | (with_reducible refine Ok.alloc ?_ _) | (with_reducible refine Ok.ex ?_ _) | (with_reducible refine Ok.drew ?_) | (with_reducible refine Ok.setCellI ?_ _ _ _) | (with_reducible refine Ok.exb ?_ _)))))
              · have n2i : ¬ (ms.length : Int) = 3 := by omega
                have p3 : ¬ x3.toList = [115, 116, 111, 112] := by rw [p2]; decide
                (clear hmr; have HXN := hid (HNC.out (HC0.out (fun h => p1 h.1) (fun h => n2 h.2) (fun h => p3 h.1))); go_wp2_with (fail); go_meet; case rel => (refine ⟨⟨x0, rdV x1, 0, x2, 0, 0⟩, (fun x hx => absurd hx (HXN.out x)), ⟨rdV_bI _, bIc (by first | exact .inl rfl | exact .inr (.inl rfl) | exact .inr (.inr (.inl rfl)) | exact .inr (.inr (.inr rfl))), bIc (by first | exact .inl rfl | exact .inr (.inl rfl) | exact .inr (.inr (.inl rfl)) | exact .inr (.inr (.inr rfl))), bIc (by first | exact .inl rfl | exact .inr (.inl rfl) | exact .inr (.inr (.inl rfl)) | exact .inr (.inr (.inr rfl)))⟩, rfl, rfl, ex_and (fun W => CuW W j0.v.heap.size ⟨x0, rdV x1, 0, x2, 0, 0⟩) ?_ ⟨inferInstance, ⟨by simp [go_sem, d0], by simp [go_sem, d1], by simp [go_sem, d2], by simp [go_sem, d3], by simp [go_sem, d4], by simp [go_sem, d5]⟩, fun o => by have := HW.out.fz o; simp [go_sem, this]⟩⟩; (refine Ok.toEx ?_; (repeat (first | (with_reducible exact Ok.rf _) | (with_reducible refine Ok.alloc ?_ _) | (with_reducible refine Ok.ex ?_ _) | (with_reducible refine Ok.drew ?_) | (with_reducible refine Ok.setCellI ?_ _ _ _) | (with_reducible refine Ok.exb ?_ _))))))
            · by_cases p3 : x3.toList = [115, 116, 111, 112]
              · have HX : Hid (∀ x, IsT s x → (⟨x0, rdV x1, 0, x2, 3, 0⟩ : Cu) = x) := hid fun x hx => by
                  by_cases n3 : r.length = 0
                  · exact HSC.out _ (HC3.out p3 n3) x hx
                  · exact absurd hx (HNC.out (HC0.out (fun h => p1 h.1) (fun h => p2 h.1) (fun h => n3 h.2)) x)
                clear hmr
                go_wp2_with (fail)
                go_meet
                case rel => (refine ⟨⟨x0, rdV x1, 0, x2, 3, 0⟩, HX.out, ⟨rdV_bI _, bIc (by first | exact .inl rfl | exact .inr (.inl rfl) | exact .inr (.inr (.inl rfl)) | exact .inr (.inr (.inr rfl))), bIc (by first | exact .inl rfl | exact .inr (.inl rfl) | exact .inr (.inr (.inl rfl)) | exact .inr (.inr (.inr rfl))), bIc (by first | exact .inl rfl | exact .inr (.inl rfl) | exact .inr (.inr (.inl rfl)) | exact .inr (.inr (.inr rfl)))⟩, rfl, rfl, ex_and (fun W => CuW W j0.v.heap.size ⟨x0, rdV x1, 0, x2, 3, 0⟩) ?_ ⟨inferInstance, ⟨by simp [go_sem, d0], by simp [go_sem, d1], by simp [go_sem, d2], by simp [go_sem, d3], by simp [go_sem, d4], by simp [go_sem, d5]⟩, fun o => by have := HW.out.fz o; simp [go_sem, this]⟩⟩; (refine Ok.toEx ?_; (repeat (first | (with_reducible exact Ok.rf _) | (with_reducible refine Ok.alloc ?_ _) | (with_reducible refine Ok.ex ?_ _) | (with_reducible refine Ok.drew ?_) | (with_reducible refine Ok.setCellI ?_ _ _ _) | (with_reducible refine Ok.exb ?_ _)))))
              · have q3 : (x3.toList == [115, 116, 111, 112]) = false := by rw [beq_eq_false_iff_ne]; exact p3
                (clear hmr; have HXN := hid (HNC.out (HC0.out (fun h => p1 h.1) (fun h => p2 h.1) (fun h => p3 h.1))); go_wp2_with (fail); go_meet; case rel => (refine ⟨⟨x0, rdV x1, 0, x2, 0, 0⟩, (fun x hx => absurd hx (HXN.out x)), ⟨rdV_bI _, bIc (by first | exact .inl rfl | exact .inr (.inl rfl) | exact .inr (.inr (.inl rfl)) | exact .inr (.inr (.inr rfl))), bIc (by first | exact .inl rfl | exact .inr (.inl rfl) | exact .inr (.inr (.inl rfl)) | exact .inr (.inr (.inr rfl))), bIc (by first | exact .inl rfl | exact .inr (.inl rfl) | exact .inr (.inr (.inl rfl)) | exact .inr (.inr (.inr rfl)))⟩, rfl, rfl, ex_and (fun W => CuW W j0.v.heap.size ⟨x0, rdV x1, 0, x2, 0, 0⟩) ?_ ⟨inferInstance, ⟨by simp [go_sem, d0], by simp [go_sem, d1], by simp [go_sem, d2], by simp [go_sem, d3], by simp [go_sem, d4], by simp [go_sem, d5]⟩, fun o => by have := HW.out.fz o; simp [go_sem, this]⟩⟩; (refine Ok.toEx ?_; (repeat (first | (with_reducible exact Ok.rf _) | (with_reducible refine Ok.alloc ?_ _) | (with_reducible refine Ok.ex ?_ _) | (with_reducible refine Ok.drew ?_) | (with_reducible refine Ok.setCellI ?_ _ _ _) | (with_reducible refine Ok.exb ?_ _))))))
        case rest =>
          obtain ⟨xF, hX, ⟨bt, bl, ba, bv⟩, hid0, htg0, j2, rfl, hcw⟩ := hcut
          have HX := hid hX
          clear hX
          obtain ⟨hlt2, ⟨g0, g1, g2, g3, g4, g5⟩, -⟩ := hcw
          have e1 : xF.id.size ≤ maxLen := by rw [hid0]; simp only [maxLen]; omega
          have e2 : xF.tg.size ≤ maxLen := by rw [htg0]; simp only [maxLen]; omega
          have HOK : Hid xF.ok := hid ⟨e1, e2, bt, bl, ba, bv⟩
          clear hid0 htg0 bt bl ba bv
          cases hvc : vC xF
          · have HVC := hid hvc
            have HN := hid (rq_no (s := s) fun ⟨x, hx⟩ => by
              have h1 := HX.out x hx
              have h2 := vC_yes hx.1
              rw [← h1, HVC.out] at h2
              cases h2)
            clear hvc
            go_wp2_with ((go_at_call 22; (with_reducible refine (iVC_any xF _ e1 e2 (HVC.out)).mono ?_); rintro e w' ⟨rfl, k9, rfl⟩))
            (refine bodyPost_ret (v := _) (by simp [results, Tryz.results12, go_sem]; rfl) rfl ?_; refine ⟨by rw [HN.out.1, HN.out.2], ?_⟩; (refine Ok.toEx ?_; (repeat (first | (with_reducible exact Ok.rf _) | (with_reducible refine Ok.alloc ?_ _) | (with_reducible refine Ok.ex ?_ _) | (with_reducible refine Ok.drew ?_) | (with_reducible refine Ok.setCellI ?_ _ _ _) | (with_reducible refine Ok.exb ?_ _)))))
          · have HVC := hid hvc
            have HCT : Hid (ctR xF = cuTx xF) := hid (by unfold ctR; rw [if_pos hvc])
            have hok := vC_of hvc
            have HOC := hid hok
            clear hvc hok
            by_cases ht : cuTx xF = s
            · have HN := hid (rq_yes (s := s) ⟨HOC.out, ht⟩)
              have hne : ((cuTx xF).toList == s.toList) = true := by rw [ht]; simp
              clear ht
              generalize cuTx xF = T at *
              go_wp2_with (first | (go_at_call 22; (with_reducible refine (iVC_any xF _ e1 e2 (HVC.out)).mono ?_); rintro e w' ⟨rfl, k9, rfl⟩) | (go_at_call 13; go_loud ((with_reducible refine (itext_any xF _ HOK.out HCT.out).mono ?_); rintro e w' ⟨rfl, k10, rfl⟩)))
              (refine bodyPost_ret (v := _) (by simp [results, Tryz.results12, go_sem]; rfl) rfl ?_; refine ⟨by rw [HN.out.1, HN.out.2], ?_⟩; (refine Ok.toEx ?_; (repeat (first | (with_reducible exact Ok.rf _) | (with_reducible refine Ok.alloc ?_ _) | (with_reducible refine Ok.ex ?_ _) | (with_reducible refine Ok.drew ?_) | (with_reducible refine Ok.setCellI ?_ _ _ _) | (with_reducible refine Ok.exb ?_ _)))))
            · have HN := hid (rq_no (s := s) fun ⟨x, hx⟩ => by
                have h1 := HX.out x hx
                exact ht (by rw [h1]; exact hx.2))
              have hne : ((cuTx xF).toList == s.toList) = false := by
                rw [beq_eq_false_iff_ne, ByteArray.toList_eq, ByteArray.toList_eq]
                exact fun h => ht (ba_ext h)
              clear ht
              generalize cuTx xF = T at *
              go_wp2_with (first | (go_at_call 22; (with_reducible refine (iVC_any xF _ e1 e2 (HVC.out)).mono ?_); rintro e w' ⟨rfl, k9, rfl⟩) | (go_at_call 13; go_loud ((with_reducible refine (itext_any xF _ HOK.out HCT.out).mono ?_); rintro e w' ⟨rfl, k10, rfl⟩)))
              (refine bodyPost_ret (v := _) (by simp [results, Tryz.results12, go_sem]; rfl) rfl ?_; refine ⟨by rw [HN.out.1, HN.out.2], ?_⟩; (refine Ok.toEx ?_; (repeat (first | (with_reducible exact Ok.rf _) | (with_reducible refine Ok.alloc ?_ _) | (with_reducible refine Ok.ex ?_ _) | (with_reducible refine Ok.drew ?_) | (with_reducible refine Ok.setCellI ?_ _ _ _) | (with_reducible refine Ok.exb ?_ _)))))
end
end Go.Proofs.YtdhflckombkimaaGreatDoor
