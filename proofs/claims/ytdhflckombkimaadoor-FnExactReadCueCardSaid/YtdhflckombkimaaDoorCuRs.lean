/-
  ReadCue: the reference. Conditions: those typed at each theorem.
-/
import Derived.Test.YtdhflckombkimaaDoorCuRp
import Derived.Test.YtdhflckombkimaaDoorRdS
import Derived.Test.YtdhflckombkimaaDoorRdM
import Derived.Deep.Cut
import Derived.Deep.CutRange
import Derived.BigQuiet
import Derived.Deep.CutBlock
import Derived.Deep.RegionHeld3
namespace Go.Proofs.YtdhflckombkimaaDoor
open Go.RowKit
/-- the cue x in its own block -/
structure CuW (W : World) (T : Nat) (x : Cu) : Prop where
  lt : LtW T W
  at_ : CuAt W T 0 x
  fz : ∀ o, W.frozen? ⟨T, o, none⟩ = false
section
set_option maxHeartbeats 3200000
set_option maxRecDepth 20000
theorem sRead_any (s : ByteArray) (w : World) (hs : s.size ≤ 1048576) :
    Calls Tryd.prog 36 #[.string s] w fun e w' => e = .returned (.tuple #[(.agg #[.string (rqC s).id, .int .i64 (rqC s).t, .int .i64 (rqC s).ln, .string (rqC s).tg, .int .i64 (rqC s).act, .int .i64 (rqC s).v]), .bool (rqB s)]) ∧ ∃ k : Ex w, w' = k.v := by
  have HT := hid (fun x => isT_num (s := s) (x := x))
  have HZ : Hid (∀ g ∈ spS 32 s, g.size ≤ 1048576) := hid fun g hg => Nat.le_trans (sp_size hg) hs
  have hle := sp_le s
  by_cases h4 : (spS 32 s).length < 4
  · have HN := hid (rq_no (s := s) fun ⟨x, hx⟩ => by have := cand_len (HT.out x hx).1; omega)
    have h4i : ((spS 32 s).length : Int) < 4 := by omega
    clear h4
    go_enter Tryd.func36, Tryd.ntmps36
    go_wp2_with ((go_at_call 71; go_loud ((refine (sSplit_any s 32 _ hs).mono ?_); rintro e w' ⟨A, c, rfl, k, rfl, ho⟩; haveI ho := ho)))
    refine bodyPost_ret (v := _) (by simp [results, Tryd.results36, go_sem]; rfl) rfl ?_
    refine ⟨by rw [HN.out.1, HN.out.2], ?_⟩
    (refine Ok.toEx ?_; (repeat (first | (with_reducible exact Ok.rf _) | (with_reducible refine Ok.alloc ?_ _) | (with_reducible refine Ok.ex ?_ _) | (with_reducible refine Ok.drew ?_) | (with_reducible refine Ok.setCellI ?_ _ _ _) | (with_reducible refine Ok.exb ?_ _))))
  · have h4i : ¬ ((spS 32 s).length : Int) < 4 := by omega
    go_enter Tryd.func36, Tryd.ntmps36
    go_upto_region 4 with ((go_at_call 71; go_loud ((refine (sSplit_any s 32 _ hs).mono ?_); rintro e w' ⟨A, c, rfl, k, rfl, ho⟩; haveI ho := ho)))
    have HA := hid ((inferInstance : Rd 1 sC k.v A (spS 32 s)).at_)
    have HC := hid (fun x (h1 : candW (spS 32 s) = some x) h2 h3 h4 => read_sp (s := s) (x := x) h1 h2 h3 h4)
    obtain ⟨L, hL⟩ : ∃ L, spS 32 s = L := ⟨_, rfl⟩
    rw [hL] at HT HZ hle h4 h4i HA HC ho ⊢
    clear hL
    obtain ⟨b, o, rfl, hbw, hc⟩ := HA.out (by omega)
    obtain ⟨x0, x1, x2, x3, r, hLr⟩ := len_four (W := L) (by omega)
    have hlr : L.length = r.length + 4 := by rw [hLr]; simp
    have z0 : x0.size ≤ 1048576 := HZ.out x0 (by rw [hLr]; simp)
    have z1 : x1.size ≤ 1048576 := HZ.out x1 (by rw [hLr]; simp)
    have z2 : x2.size ≤ 1048576 := HZ.out x2 (by rw [hLr]; simp)
    have ZR : Hid (∀ y ∈ r, y.size ≤ 1048576) := hid fun y hy => HZ.out y (by rw [hLr]; simp [hy])
    have hat : ∀ (j : Nat) (y : ByteArray), L[j]? = some y → k.v.cell? ⟨b, o + j, none⟩ = some (.string y) := fun j y hj => by
      obtain ⟨hjl, rfl⟩ := List.getElem?_eq_some_iff.1 hj
      have := hc j hjl 0 _ rfl
      simpa using this
    have c0 := hat 0 x0 (by rw [hLr]; rfl)
    have c1 := hat 1 x1 (by rw [hLr]; rfl)
    have c2 := hat 2 x2 (by rw [hLr]; rfl)
    have c3 := hat 3 x3 (by rw [hLr]; rfl)
    rw [Nat.add_zero] at c0
    have HR : Hid (∀ (j : Nat) (y : ByteArray), r[j]? = some y → k.v.cell? ⟨b, o + (4 + j), none⟩ = some (.string y)) := hid fun j y hj => hat (4 + j) y (by rw [hLr, Nat.add_comm 4]; exact hj)
    have HLR := hid hLr
    have HLN := hid hlr
    clear hLr hat hc hlr HA HZ
    have l1 : (1 : Int) < (L.length : Int) := by omega
    have l2 : (2 : Int) < (L.length : Int) := by omega
    have l3 : (3 : Int) < (L.length : Int) := by omega
    have l0 : (0 : Int) < (L.length : Int) := by omega
    have lN : 0 < L.length := by omega
    have lE : L ≠ [] := List.length_pos_iff.1 lN
    go_upto_region 5 with ((go_at_call 72; refine (sNum_any x1 _ z1).mono ?_; rintro e w' ⟨rfl, rfl⟩))
    go_cut [7] from 25 to 32 (fun u7 wx => u7 = .pointer (some ⟨k.v.heap.size, 0, none⟩) ∧ ∃ j : Ex k.v, wx = j.v ∧ CuW j.v k.v.heap.size ⟨x0, rdV x1, 0, x2, 0, 0⟩)
    case first =>
      go_region_held3 (fun W => W.cell? ⟨b, o, none⟩ = some (.string x0) ∧ W.cell? ⟨b, o + 2, none⟩ = some (.string x2)) ((refine ⟨?_, ?_⟩ <;> simp [go_sem, c0, c2])) ((fail))
      all_goals
        go_wp2_with (fail)
        go_meet
        case rel => exact ⟨rfl, ex_and (fun W => CuW W k.v.heap.size ⟨x0, rdV x1, 0, x2, 0, 0⟩) (by (refine Ok.toEx ?_; (repeat (first | (with_reducible exact Ok.rf _) | (with_reducible refine Ok.alloc ?_ _) | (with_reducible refine Ok.ex ?_ _) | (with_reducible refine Ok.drew ?_) | (with_reducible refine Ok.setCellI ?_ _ _ _) | (with_reducible refine Ok.exb ?_ _))))) ⟨inferInstance, ⟨by simp [go_sem], by simp [go_sem], by simp [go_sem], by simp [go_sem], by simp [go_sem], by simp [go_sem]⟩, fun o => by simp [go_sem]⟩⟩
    case rest =>
    obtain ⟨rfl, j0, rfl, hcw⟩ := hcut
    have HW := hid hcw
    obtain ⟨hlt, ⟨d0, d1, d2, d3, d4, d5⟩, hfz⟩ := hcw
    go_wp2_with (fail)
    have hj0 := (inferInstance : LtW k.v.heap.size j0.v).h
    go_loopw [6, 8, 9] (fun u v i wr => ∃ q : Nat, q ≤ r.length ∧ u = .bool (rdO x1 && (r.take q).all rdO) ∧ i = .int .i64 (4 + (q : Int)) ∧ ∃ j : Ex j0.v, wr = j.v ∧ j.v.ownsRow j0.v.heap.size 2 1 v ((r.take q).map rdV).length (((r.take q).map rdV).flatMap iC)) (fun _ _ i _ => L.length - (intOf i).toNat)
    case atStart => exact ⟨0, Nat.zero_le _, by simp, rfl, ex_and (fun W => W.ownsRow j0.v.heap.size 2 1 (.slice (some ⟨j0.v.heap.size, 0, none⟩) 0 0) ((r.take 0).map rdV).length (((r.take 0).map rdV).flatMap iC)) (by (refine Ok.toEx ?_; (repeat (first | (with_reducible exact Ok.rf _) | (with_reducible refine Ok.alloc ?_ _) | (with_reducible refine Ok.ex ?_ _) | (with_reducible refine Ok.drew ?_) | (with_reducible refine Ok.setCellI ?_ _ _ _) | (with_reducible refine Ok.exb ?_ _))))) (row_made j0.v j0.v.heap.size (Nat.le_refl _) 2 1 iC)⟩
    case round =>
      obtain ⟨q, hq, rfl, rfl, j1, rfl, hrow⟩ := hrel
      obtain ⟨ms, hms⟩ : ∃ ms, (r.take q).map rdV = ms := ⟨_, rfl⟩
      rw [hms] at hrow
      obtain ⟨A1, c9, rfl, hO, hF⟩ := Ow.of_row (f := iC) (fun _ => rfl) hrow
      have HROW := hid hrow
      have HMS := hid hms
      have hml : ms.length = q := by rw [← hms, List.length_map, List.length_take]; omega
      have HML := hid hml
      have hln := HLN.out
      clear hrow hms hml
      obtain ⟨bq, hbq⟩ : ∃ bq, (rdO x1 && (r.take q).all rdO) = bq := ⟨_, rfl⟩
      rw [hbq]
      have HBQ := hid hbq
      clear hbq
      by_cases hlt : q < r.length
      · have cy := HR.out q r[q] (List.getElem?_eq_getElem hlt)
        have hys := ZR.out _ (List.getElem_mem hlt)
        have HT1 : Hid (r.take (q + 1) = r.take q ++ [r[q]]) := hid (List.take_append_getElem hlt).symm
        have hq4 : (4 + (q : Int)).toNat = 4 + q := by omega
        have hqi : 4 + (q : Int) < (L.length : Int) := by omega
        have hq0 : (0 : Int) ≤ 4 + (q : Int) := by omega
        have hmq : ms.length ≤ 1048576 := by rw [HML.out]; omega
        clear hln
        have HB : Hid ((rdO x1 && (r.take (q + 1)).all rdO) = (bq && rdO r[q])) := hid (by rw [HT1.out, List.all_append, ← Bool.and_assoc, HBQ.out]; simp)
        have HM2 : Hid ((r.take (q + 1)).map rdV = ms ++ [rdV r[q]]) := hid (by rw [HT1.out, List.map_append, HMS.out]; rfl)
        generalize r[q] = y at *
        cases bq
        all_goals
          go_wp2_with (first | (go_at_call 72; refine (sNum_any y _ hys).mono ?_; rintro e w' ⟨rfl, rfl⟩) | (at_builtin; go_loud (refine wpList_appZ iC _ rfl _ _ _ rfl j0.v.heap.size ?_ _ _ _ _ Tryd.underlying50 infoI64 rfl (by omega) (fun _ => ⟨rfl, by simp [iC, Value.oneCell']⟩) (.slice A1 ms.length c9) ms rfl (HROW.out.alloc _) (rdV y) _ _ rfl (cellsB ?_) ?_ ?_ ?_; (· have := j1.size; simp; omega); (· simp); (· omega); (· omega); intro v2 kk2 hA2)))
          go_roundw
          case rel => exact ⟨q + 1, by omega, by rw [HB.out]; first | rfl | (simp; done), by go_num, ⟨kk2.v, (((Below.refl _ _).trans j1.h).alloc j1.size _).trans kk2.h⟩, rfl, by rw [HM2.out]; exact hA2.own⟩
          case measure => simp [intOf]; omega
      · obtain rfl : q = r.length := by omega
        have hqi : ¬ 4 + (r.length : Int) < (L.length : Int) := by omega
        rw [List.take_length] at HMS HBQ
        obtain ⟨f0, f1, f2, f3, f4, f5⟩ : j0.v.frozen? ⟨k.v.heap.size, 0, none⟩ = false ∧ j0.v.frozen? ⟨k.v.heap.size, 1, none⟩ = false ∧ j0.v.frozen? ⟨k.v.heap.size, 2, none⟩ = false ∧ j0.v.frozen? ⟨k.v.heap.size, 3, none⟩ = false ∧ j0.v.frozen? ⟨k.v.heap.size, 4, none⟩ = false ∧ j0.v.frozen? ⟨k.v.heap.size, 5, none⟩ = false := ⟨hfz 0, hfz 1, hfz 2, hfz 3, hfz 4, hfz 5⟩
        clear hln
        have e3 : x3.toList = x3.data.toList := ByteArray.toList_eq ..
        have HC1 : Hid (x3.toList = [115, 101, 116] → r.length = 1 → candW L = some ⟨x0, rdV x1, 0, x2, 1, rdV (r.getD 0 ⟨#[]⟩)⟩) := hid fun a n => by rw [HLR.out, cand_cons, if_pos ⟨e3.symm.trans a, n⟩]
        have HC2 : Hid (x3.toList = [102, 97, 100, 101] → r.length = 2 → candW L = some ⟨x0, rdV x1, rdV (r.getD 1 ⟨#[]⟩), x2, 2, rdV (r.getD 0 ⟨#[]⟩)⟩) := hid fun a n => by rw [HLR.out, cand_cons, if_neg (fun h => by omega), if_pos ⟨e3.symm.trans a, n⟩]
        have HC3 : Hid (x3.toList = [115, 116, 111, 112] → r.length = 0 → candW L = some ⟨x0, rdV x1, 0, x2, 3, 0⟩) := hid fun a n => by rw [HLR.out, cand_cons, if_neg (fun h => by omega), if_neg (fun h => by omega), if_pos ⟨e3.symm.trans a, n⟩]
        have HC0 : Hid (¬ (x3.toList = [115, 101, 116] ∧ r.length = 1) → ¬ (x3.toList = [102, 97, 100, 101] ∧ r.length = 2) → ¬ (x3.toList = [115, 116, 111, 112] ∧ r.length = 0) → candW L = none) := hid fun a b c => by rw [HLR.out, cand_cons, if_neg (fun h => a ⟨e3.trans h.1, h.2⟩), if_neg (fun h => b ⟨e3.trans h.1, h.2⟩), if_neg (fun h => c ⟨e3.trans h.1, h.2⟩)]
        clear e3
        have HOKB : Hid (bq = false → ¬ ∃ x, IsT s x) := hid fun hb ⟨x, hx⟩ => by
          obtain ⟨-, g1, g2, -⟩ := HT.out x hx
          rw [HLR.out] at g1 g2
          have g1 : rdO x1 = true := g1
          have g2 : ∀ y ∈ r, rdO y = true := g2
          have := HBQ.out
          rw [g1, List.all_eq_true.2 g2, hb] at this
          cases this
        have HNC : Hid (candW L = none → ¬ ∃ x, IsT s x) := hid fun hb ⟨x, hx⟩ => by rw [(HT.out x hx).1] at hb; cases hb
        go_upto_block 2 with (fail)
        go_cut [6] from 56 to 101 (fun u6 wx => ∃ (xF : Cu) (ok' : Bool), u6 = .bool ok' ∧ (ok' = true → candW L = some xF ∧ bq = true) ∧ (ok' = false → ¬ ∃ x, IsT s x) ∧ xF.id = x0 ∧ xF.tg = x2 ∧ ∃ j : Ex k.v, wx = j.v ∧ CuW j.v k.v.heap.size xF)
        case first =>
          have hmr := HML.out
          by_cases p1 : x3.toList = [115, 101, 116]
          · by_cases n1 : r.length = 1
            · have HX := hid (HC1.out p1 n1)
              have n1i : (ms.length : Int) = 1 := by omega
              obtain ⟨g, rfl, hwr⟩ := hO.own (by omega)
              have hg := hF g 0 none rfl
              haveI : NeB k.v.heap.size g := ⟨by omega⟩
              obtain ⟨b9, o9, e9, hb9, hc9⟩ := (inferInstance : Rd 1 iC j1.v (some ⟨g, 0, none⟩) ms).at_ (by omega)
              cases e9
              have m0 := hc9 0 (by omega) 0 _ rfl
              simp only [Nat.mul_one, Nat.add_zero] at m0
              have HM0 : Hid (ms[0]'(by omega) = rdV (r.getD 0 ⟨#[]⟩)) := hid (by
                simp only [← HMS.out, List.getElem_map]
                rw [List.getD_eq_getElem?_getD, List.getElem?_eq_getElem (by omega)]; rfl)
              rw [HM0.out] at m0
              clear HM0 hmr hc9
              clear n1
              go_wp2_with (fail)
              go_meet
              case rel =>
                refine ⟨⟨x0, rdV x1, 0, x2, 1, rdV (r.getD 0 ⟨#[]⟩)⟩, bq, rfl, fun hb => ⟨HX.out, hb⟩, HOKB.out, rfl, rfl, ex_and (fun W => CuW W k.v.heap.size ⟨x0, rdV x1, 0, x2, 1, rdV (r.getD 0 ⟨#[]⟩)⟩) ?_ ⟨⟨by (try simp); have := j1.size; omega⟩, ⟨by simp [go_sem, d0], by simp [go_sem, d1], by simp [go_sem, d2], by simp [go_sem, d3], by simp [go_sem, d4], by simp [go_sem, d5]⟩, fun o => by simp [go_sem, hfz]⟩⟩
                (refine Ok.toEx ?_; (repeat (first | (with_reducible exact Ok.rf _) | (with_reducible refine Ok.alloc ?_ _) | (with_reducible refine Ok.ex ?_ _) | (with_reducible refine Ok.drew ?_) | (with_reducible refine Ok.setCellI ?_ _ _ _) | (with_reducible refine Ok.exb ?_ _))))
            · have n1i : ¬ (ms.length : Int) = 1 := by omega
              have p2 : ¬ x3.toList = [102, 97, 100, 101] := by rw [p1]; decide
              have p3 : ¬ x3.toList = [115, 116, 111, 112] := by rw [p1]; decide
              (clear hmr; have HN := hid (HNC.out (HC0.out (fun h => n1 h.2) (fun h => p2 h.1) (fun h => p3 h.1))); go_wp2_with (fail); go_meet; case rel => (refine ⟨⟨x0, rdV x1, 0, x2, 0, 0⟩, false, rfl, (fun h => by cases h), fun _ => HN.out, rfl, rfl, ex_and (fun W => CuW W k.v.heap.size ⟨x0, rdV x1, 0, x2, 0, 0⟩) ?_ ⟨⟨by (try simp); have := j1.size; omega⟩, ⟨by simp [go_sem, d0], by simp [go_sem, d1], by simp [go_sem, d2], by simp [go_sem, d3], by simp [go_sem, d4], by simp [go_sem, d5]⟩, fun o => by simp [go_sem, hfz]⟩⟩; (refine Ok.toEx ?_; (repeat (first | (with_reducible exact Ok.rf _) | (with_reducible refine Ok.alloc ?_ _) | (with_reducible refine Ok.ex ?_ _) | (with_reducible refine Ok.drew ?_) | (with_reducible refine Ok.setCellI ?_ _ _ _) | (with_reducible refine Ok.exb ?_ _))))))
          · by_cases p2 : x3.toList = [102, 97, 100, 101]
            · by_cases n2 : r.length = 2
              · have HX := hid (HC2.out p2 n2)
                have n2i : (ms.length : Int) = 2 := by omega
                obtain ⟨g, rfl, hwr⟩ := hO.own (by omega)
                have hg := hF g 0 none rfl
                haveI : NeB k.v.heap.size g := ⟨by omega⟩
                obtain ⟨b9, o9, e9, hb9, hc9⟩ := (inferInstance : Rd 1 iC j1.v (some ⟨g, 0, none⟩) ms).at_ (by omega)
                cases e9
                have m0 := hc9 0 (by omega) 0 _ rfl
                have m1 := hc9 1 (by omega) 0 _ rfl
                simp only [Nat.mul_one, Nat.add_zero, Nat.zero_add] at m0 m1
                have HM0 : Hid (ms[0]'(by omega) = rdV (r.getD 0 ⟨#[]⟩)) := hid (by
                  simp only [← HMS.out, List.getElem_map]
                  rw [List.getD_eq_getElem?_getD, List.getElem?_eq_getElem (by omega)]; rfl)
                have HM1 : Hid (ms[1]'(by omega) = rdV (r.getD 1 ⟨#[]⟩)) := hid (by
                  simp only [← HMS.out, List.getElem_map]
                  rw [List.getD_eq_getElem?_getD, List.getElem?_eq_getElem (by omega)]; rfl)
                rw [HM0.out] at m0
                rw [HM1.out] at m1
                clear HM0 HM1 hmr hc9
                clear n2
                go_wp2_with (fail)
                go_meet
                case rel =>
                  refine ⟨⟨x0, rdV x1, rdV (r.getD 1 ⟨#[]⟩), x2, 2, rdV (r.getD 0 ⟨#[]⟩)⟩, bq, rfl, fun hb => ⟨HX.out, hb⟩, HOKB.out, rfl, rfl, ex_and (fun W => CuW W k.v.heap.size ⟨x0, rdV x1, rdV (r.getD 1 ⟨#[]⟩), x2, 2, rdV (r.getD 0 ⟨#[]⟩)⟩) ?_ ⟨⟨by (try simp); have := j1.size; omega⟩, ⟨by simp [go_sem, d0], by simp [go_sem, d1], by simp [go_sem, d2], by simp [go_sem, d3], by simp [go_sem, d4], by simp [go_sem, d5]⟩, fun o => by simp [go_sem, hfz]⟩⟩
                  (refine Ok.toEx ?_; (repeat (first | (with_reducible exact Ok.rf _) | (with_reducible refine Ok.alloc ?_ _) | (with_reducible refine Ok.ex ?_ _) | (with_reducible refine Ok.drew ?_) | (with_reducible refine Ok.setCellI ?_ _ _ _) | (with_reducible refine Ok.exb ?_ _))))
              · have n2i : ¬ (ms.length : Int) = 2 := by omega
                have p3 : ¬ x3.toList = [115, 116, 111, 112] := by rw [p2]; decide
                (clear hmr; have HN := hid (HNC.out (HC0.out (fun h => p1 h.1) (fun h => n2 h.2) (fun h => p3 h.1))); go_wp2_with (fail); go_meet; case rel => (refine ⟨⟨x0, rdV x1, 0, x2, 0, 0⟩, false, rfl, (fun h => by cases h), fun _ => HN.out, rfl, rfl, ex_and (fun W => CuW W k.v.heap.size ⟨x0, rdV x1, 0, x2, 0, 0⟩) ?_ ⟨⟨by (try simp); have := j1.size; omega⟩, ⟨by simp [go_sem, d0], by simp [go_sem, d1], by simp [go_sem, d2], by simp [go_sem, d3], by simp [go_sem, d4], by simp [go_sem, d5]⟩, fun o => by simp [go_sem, hfz]⟩⟩; (refine Ok.toEx ?_; (repeat (first | (with_reducible exact Ok.rf _) | (with_reducible refine Ok.alloc ?_ _) | (with_reducible refine Ok.ex ?_ _) | (with_reducible refine Ok.drew ?_) | (with_reducible refine Ok.setCellI ?_ _ _ _) | (with_reducible refine Ok.exb ?_ _))))))
            · by_cases p3 : x3.toList = [115, 116, 111, 112]
              · by_cases n3 : r.length = 0
                · have HX := hid (HC3.out p3 n3)
                  have n3i : (ms.length : Int) = 0 := by omega
                  clear n3 hmr
                  go_wp2_with (fail)
                  go_meet
                  case rel =>
                    refine ⟨⟨x0, rdV x1, 0, x2, 3, 0⟩, bq, rfl, fun hb => ⟨HX.out, hb⟩, HOKB.out, rfl, rfl, ex_and (fun W => CuW W k.v.heap.size ⟨x0, rdV x1, 0, x2, 3, 0⟩) ?_ ⟨⟨by (try simp); have := j1.size; omega⟩, ⟨by simp [go_sem, d0], by simp [go_sem, d1], by simp [go_sem, d2], by simp [go_sem, d3], by simp [go_sem, d4], by simp [go_sem, d5]⟩, fun o => by simp [go_sem, hfz]⟩⟩
                    (refine Ok.toEx ?_; (repeat (first | (with_reducible exact Ok.rf _) | (with_reducible refine Ok.alloc ?_ _) | (with_reducible refine Ok.ex ?_ _) | (with_reducible refine Ok.drew ?_) | (with_reducible refine Ok.setCellI ?_ _ _ _) | (with_reducible refine Ok.exb ?_ _))))
                · have n3i : ¬ (ms.length : Int) = 0 := by omega
                  (clear hmr; have HN := hid (HNC.out (HC0.out (fun h => p1 h.1) (fun h => p2 h.1) (fun h => n3 h.2))); go_wp2_with (fail); go_meet; case rel => (refine ⟨⟨x0, rdV x1, 0, x2, 0, 0⟩, false, rfl, (fun h => by cases h), fun _ => HN.out, rfl, rfl, ex_and (fun W => CuW W k.v.heap.size ⟨x0, rdV x1, 0, x2, 0, 0⟩) ?_ ⟨⟨by (try simp); have := j1.size; omega⟩, ⟨by simp [go_sem, d0], by simp [go_sem, d1], by simp [go_sem, d2], by simp [go_sem, d3], by simp [go_sem, d4], by simp [go_sem, d5]⟩, fun o => by simp [go_sem, hfz]⟩⟩; (refine Ok.toEx ?_; (repeat (first | (with_reducible exact Ok.rf _) | (with_reducible refine Ok.alloc ?_ _) | (with_reducible refine Ok.ex ?_ _) | (with_reducible refine Ok.drew ?_) | (with_reducible refine Ok.setCellI ?_ _ _ _) | (with_reducible refine Ok.exb ?_ _))))))
              · (clear hmr; have HN := hid (HNC.out (HC0.out (fun h => p1 h.1) (fun h => p2 h.1) (fun h => p3 h.1))); go_wp2_with (fail); go_meet; case rel => (refine ⟨⟨x0, rdV x1, 0, x2, 0, 0⟩, false, rfl, (fun h => by cases h), fun _ => HN.out, rfl, rfl, ex_and (fun W => CuW W k.v.heap.size ⟨x0, rdV x1, 0, x2, 0, 0⟩) ?_ ⟨⟨by (try simp); have := j1.size; omega⟩, ⟨by simp [go_sem, d0], by simp [go_sem, d1], by simp [go_sem, d2], by simp [go_sem, d3], by simp [go_sem, d4], by simp [go_sem, d5]⟩, fun o => by simp [go_sem, hfz]⟩⟩; (refine Ok.toEx ?_; (repeat (first | (with_reducible exact Ok.rf _) | (with_reducible refine Ok.alloc ?_ _) | (with_reducible refine Ok.ex ?_ _) | (with_reducible refine Ok.drew ?_) | (with_reducible refine Ok.setCellI ?_ _ _ _) | (with_reducible refine Ok.exb ?_ _))))))
        case rest =>
          obtain ⟨xF, ok', rfl, hyes, hno, hid0, htg0, j2, rfl, hcw⟩ := hcut
          have HYES := hid hyes
          have HNO := hid hno
          obtain ⟨hlt2, hcu, -⟩ := hcw
          have HCU := hid hcu
          obtain ⟨d0, d1, d2, d3, d4, d5⟩ := hcu
          have e1 : xF.id.size ≤ maxLen := by rw [hid0]; simp only [maxLen]; omega
          have e2 : xF.tg.size ≤ maxLen := by rw [htg0]; simp only [maxLen]; omega
          clear hyes hno hid0 htg0
          cases ok'
          · have HN := hid (rq_no (HNO.out rfl))
            go_wp2_with (fail)
            (refine bodyPost_ret (v := _) (by simp [results, Tryd.results36, go_sem]; rfl) rfl ?_; refine ⟨by rw [HN.out.1, HN.out.2], ?_⟩; (refine Ok.toEx ?_; (repeat (first | (with_reducible exact Ok.rf _) | (with_reducible refine Ok.alloc ?_ _) | (with_reducible refine Ok.ex ?_ _) | (with_reducible refine Ok.drew ?_) | (with_reducible refine Ok.setCellI ?_ _ _ _) | (with_reducible refine Ok.exb ?_ _)))))
          · obtain ⟨hcd, hbt⟩ := HYES.out rfl
            have HCD := hid hcd
            have HBT := hid hbt
            clear hcd hbt
            cases hvc : vC xF
            · have HVC := hid hvc
              have HN := hid (rq_no (s := s) fun ⟨x, hx⟩ => by
                have h1 := (HT.out x hx).1
                rw [HCD.out] at h1
                obtain rfl := Option.some.inj h1
                have h2 := vC_yes hx.1
                rw [HVC.out] at h2
                cases h2)
              clear hvc
              go_wp2_with ((go_at_call 73; go_loud ((with_reducible refine (sOne_any xF _ 0 _ ?_ e1 e2 (HVC.out)).mono ?_); (· exact HCU.out); rintro e w' ⟨rfl, k9, rfl⟩)))
              (refine bodyPost_ret (v := _) (by simp [results, Tryd.results36, go_sem]; rfl) rfl ?_; refine ⟨by rw [HN.out.1, HN.out.2], ?_⟩; (refine Ok.toEx ?_; (repeat (first | (with_reducible exact Ok.rf _) | (with_reducible refine Ok.alloc ?_ _) | (with_reducible refine Ok.ex ?_ _) | (with_reducible refine Ok.drew ?_) | (with_reducible refine Ok.setCellI ?_ _ _ _) | (with_reducible refine Ok.exb ?_ _)))))
            · have HVC := hid hvc
              have HN := hid (rq_yes (HC.out xF HCD.out (by
                have h1 := HBQ.out
                rw [HBT.out, Bool.and_eq_true] at h1
                rw [HLR.out]
                exact h1.1) (by
                have h1 := HBQ.out
                rw [HBT.out, Bool.and_eq_true] at h1
                rw [HLR.out]
                exact List.all_eq_true.1 h1.2) (vC_of hvc)))
              clear hvc
              go_wp2_with ((go_at_call 73; go_loud ((with_reducible refine (sOne_any xF _ 0 _ ?_ e1 e2 (HVC.out)).mono ?_); (· exact HCU.out); rintro e w' ⟨rfl, k9, rfl⟩)))
              (refine bodyPost_ret (v := _) (by simp [results, Tryd.results36, go_sem]; rfl) rfl ?_; refine ⟨by rw [HN.out.1, HN.out.2], ?_⟩; (refine Ok.toEx ?_; (repeat (first | (with_reducible exact Ok.rf _) | (with_reducible refine Ok.alloc ?_ _) | (with_reducible refine Ok.ex ?_ _) | (with_reducible refine Ok.drew ?_) | (with_reducible refine Ok.setCellI ?_ _ _ _) | (with_reducible refine Ok.exb ?_ _)))))
end
end Go.Proofs.YtdhflckombkimaaDoor
