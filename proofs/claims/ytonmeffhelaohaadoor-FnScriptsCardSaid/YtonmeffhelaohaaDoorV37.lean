/-
  ReadScript: the reference. Conditions: those typed at each theorem.
-/
import Derived.Test.YtonmeffhelaohaaDoorV35
import Derived.Test.YtonmeffhelaohaaDoorV9
import Derived.Test.YtonmeffhelaohaaDoorV28
namespace Go.Proofs.YtonmeffhelaohaaDoor
open Go.RowKit
/-- the line that a text is -/
def rdLn (y : ByteArray) : Option Ln := lnR (spS 32 y)
theorem rd_all : ∀ {Y : List ByteArray} {out : List Ln}, out.map some = Y.map rdLn → out.map lnB = Y
  | [], out, h => by
    have : out = [] := by cases out with | nil => rfl | cons a t => simp at h
    rw [this]; rfl
  | y :: Y, [], h => by simp at h
  | y :: Y, x :: out, h => by
    simp only [List.map_cons, List.cons.injEq] at h ⊢
    exact ⟨lnR_sp h.1.symm, rd_all h.2⟩
theorem isS_rd {s : ByteArray} {l : List Ln} (h : IsS s l) : (l.map lnB).map rdLn = l.map some := by
  rw [List.map_map]
  exact List.map_congr_left fun x hx => ln_read (okL_one h.1 x hx)
/-- a line that is none -/
theorem isS_bad {s y : ByteArray} {q : Nat} (h : (spS 10 s)[q]? = some y) (hq : q + 1 < (spS 10 s).length) (hb : rdLn y = none) : ∀ l, ¬ IsS s l := fun l hl => by
  have e := isS_sp hl
  have e2 := isS_rd hl
  rw [e] at h hq
  have hql : q < l.length := by simp at hq; omega
  rw [List.getElem?_append_left (by simpa using hql)] at h
  have h3 : ((l.map lnB).map rdLn)[q]? = some (rdLn y) := by rw [List.getElem?_map, h]; rfl
  rw [e2, hb, List.getElem?_map, List.getElem?_eq_getElem hql] at h3
  simp at h3
theorem isS_last {s y : ByteArray} {q : Nat} (h : (spS 10 s)[q]? = some y) (hq : q + 1 = (spS 10 s).length) (hb : y ≠ ⟨#[]⟩) : ∀ l, ¬ IsS s l := fun l hl => by
  have e := isS_sp hl
  rw [e] at h hq
  have hql : q = l.length := by simp at hq; omega
  rw [List.getElem?_append_right (by simp; omega)] at h
  simp [hql] at h
  exact hb h.symm
theorem isS_fin {s : ByteArray} {out : List Ln} {Y : List ByteArray} (h : spS 10 s = Y ++ [⟨#[]⟩]) (ho : out.map some = Y.map rdLn) : (vL out = true → IsS s out) ∧ ∀ l, IsS s l → out = l := by
  refine ⟨fun hv => isS_of hv (by rw [rd_all ho]; exact h), fun l hl => ?_⟩
  have e := isS_sp hl
  have e2 := isS_rd hl
  rw [h] at e
  have e3 := List.append_cancel_right e
  rw [← e3, ← ho] at e2
  exact (List.map_inj_right fun _ _ h => Option.some.inj h).1 e2
theorem rdV_b (y : ByteArray) : -9223372036854775808 ≤ rdV y ∧ rdV y ≤ 9223372036854775807 := by
  unfold rdV
  cases hr : rdD y.data.toList with
  | none => simp
  | some n => have := (rdD_some hr).2; simp only [Option.getD_some]; omega
theorem lnR_ok {W : List ByteArray} {x : Ln} (hz : ∀ g ∈ W, g.size ≤ 1048576) (h : lnR W = some x) : x.ok := by
  have h0 : (⟨#[]⟩ : ByteArray).size = 0 := rfl
  unfold Ln.ok
  match W, h with
  | [], h => cases h
  | [a], h =>
    rw [lnR_1] at h
    split at h
    · obtain rfl := Option.some.inj h; dsimp only; omega
    · cases h
  | [a, b], h =>
    have hb := hz b (by simp)
    have hv := rdV_b b
    rw [lnR_2] at h
    split at h
    · obtain rfl := Option.some.inj h; dsimp only; omega
    · split at h
      · obtain rfl := Option.some.inj h; dsimp only; omega
      · split at h
        · split at h
          · obtain rfl := Option.some.inj h; dsimp only; omega
          · cases h
        · cases h
  | [a, b, c], h =>
    have hb := hz b (by simp)
    have hv := rdV_b c
    rw [lnR_3] at h
    split at h
    · split at h
      · obtain rfl := Option.some.inj h; dsimp only; omega
      · cases h
    · cases h
  | _ :: _ :: _ :: _ :: _, h => cases h
theorem oks_snoc {o : List Ln} {x : Ln} (h : Oks o) (hx : x.ok) : Oks (o ++ [x]) := ⟨fun y hy => by
  rcases List.mem_append.1 hy with hy | hy
  · exact h.h y hy
  · obtain rfl := List.mem_singleton.1 hy; exact hx⟩
/-- what a call that reads a script leaves -/
def RsPost (s : ByteArray) (w : World) (e : Ending) (w' : World) : Prop :=
  ∃ A' c', e = .returned (.tuple #[.slice A' (rsL s).length c', .bool (rsB s)]) ∧ ∃ k : Ex w, w' = k.v ∧ Ow 3 Ln.cells k.v A' (rsL s) ∧ Fr w A' ∧ Inw k.v A'
theorem rsPost_no {s : ByteArray} {w : World} {e : Ending} {w' : World} (h : rsL s = [] ∧ rsB s = false) (he : e = .returned (.tuple #[.slice none 0 0, .bool false])) (hw : ∃ k : Ex w, w' = k.v) : RsPost s w e w' := by
  obtain ⟨k, rfl⟩ := hw
  obtain ⟨h1, h2⟩ := h
  unfold RsPost
  rw [h1, h2]
  exact ⟨none, 0, he, k, rfl, Ow.nil, inferInstance, fun _ _ _ h => by cases h⟩
section
set_option maxHeartbeats 3200000
set_option maxRecDepth 20000
theorem infoLnR : (Tryd.prog.info? 62).map (fun i => (i.zero, i.size, i.bytes)) = some (some (.agg #[.int .i64 0, .string ⟨#[]⟩, .int .i64 0]), 3, 32) := by kernel_rfl
theorem sReadS_any (s : ByteArray) (w : World) (hs : s.size ≤ 1048576) :
    Calls Tryd.prog 26 #[.string s] w (RsPost s w) := by
  have HZ : Hid (∀ g ∈ spS 10 s, g.size ≤ 1048576) := hid fun g hg => by
    obtain ⟨l, hl, rfl⟩ := List.mem_map.1 hg
    have := splC_size 10 _ l hl
    have e1 : (baL l).size = l.length := by show l.toArray.size = _; simp
    have e2 : s.data.toList.length = s.size := by simp
    omega
  have hle : (spS 10 s).length ≤ s.size + 1 := by
    unfold spS
    rw [List.length_map]
    have := splC_len 10 s.data.toList
    have e2 : s.data.toList.length = s.size := by simp
    omega
  have hne : spS 10 s ≠ [] := by unfold spS; simp [splC_ne]
  have HBAD : Hid (∀ q y, (spS 10 s)[q]? = some y → q + 1 < (spS 10 s).length → rdLn y = none → rsL s = [] ∧ rsB s = false) := hid fun q y h1 h2 h3 => rs_no (isS_bad h1 h2 h3)
  obtain ⟨Y, z, hYz⟩ : ∃ Y z, spS 10 s = Y ++ [z] := ⟨_, _, (List.dropLast_concat_getLast hne).symm⟩
  have HLAST : Hid (z ≠ ⟨#[]⟩ → rsL s = [] ∧ rsB s = false) := hid fun h => rs_no (isS_last (q := Y.length) (by rw [hYz]; simp) (by rw [hYz]; simp) h)
  have HFIN : Hid (z = ⟨#[]⟩ → ∀ out : List Ln, out.map some = Y.map rdLn → (vL out = true → rsL s = out ∧ rsB s = true) ∧ (vL out = false → rsL s = [] ∧ rsB s = false)) := hid fun h out ho => by
    subst h
    obtain ⟨h1, h2⟩ := isS_fin hYz ho
    refine ⟨fun hv => rs_yes (h1 hv), fun hv => rs_no fun l hl => ?_⟩
    have h3 := hl.1
    rw [← h2 l hl, hv] at h3
    cases h3
  rw [hYz] at hle HZ
  have HYZ := hid hYz
  clear hYz hne
  have HYS : Hid (∀ y ∈ Y, y.size ≤ 1048576) := hid fun y hy => HZ.out y (by simp [hy])
  obtain ⟨p, hp⟩ : ∃ p, Y.length = p := ⟨_, rfl⟩
  have HP := hid hp
  have hpl : p ≤ 1048576 := by simp at hle; omega
  have HLL : Hid ((spS 10 s).length = p + 1) := hid (by rw [HYZ.out]; simp [hp])
  clear hp hle HZ
  go_enter Tryd.func26, Tryd.ntmps26
  go_upto_region 2 with ((go_at_call 49; go_loud ((refine (sSplit_any s 10 _ hs).mono ?_); rintro e w' ⟨A, c, rfl, k, rfl, ho⟩; haveI ho := ho)))
  have HA := hid ((inferInstance : Rd 1 sC k.v A (spS 10 s)).at_)
  obtain ⟨L, hL⟩ : ∃ L, spS 10 s = L := ⟨_, rfl⟩
  rw [hL] at HA ho HYZ HBAD HLL ⊢
  clear hL
  obtain ⟨b, o, rfl, hbw, hc⟩ := HA.out (by have := HLL.out; omega)
  have hat : ∀ (j : Nat) (y : ByteArray), L[j]? = some y → k.v.cell? ⟨b, o + j, none⟩ = some (.string y) := fun j y hj => by
    obtain ⟨hjl, rfl⟩ := List.getElem?_eq_some_iff.1 hj
    have := hc j hjl 0 _ rfl
    simpa using this
  have cz := hat p z (by rw [HYZ.out, ← HP.out]; simp)
  have HAT := hid hat
  have hpi : (L.length : Int) - 1 = (p : Int) := by have := HLL.out; omega
  have hz1 : IntKind.i64.wrap (p : Int) = p := IntWalk.i64_in _ (by omega)
  have hpL : (p : Int) < (L.length : Int) := by have := HLL.out; omega
  have hp0 : (0 : Int) ≤ (p : Int) := by omega
  clear hat hc HA
  by_cases hz : z = ⟨#[]⟩
  rotate_left
  · have HN := hid (HLAST.out hz)
    have hz2 : ¬ z.toList = [] := fun e => hz (ba_ext (by rw [ByteArray.toList_eq] at e; rw [e]))
    have hz3 : z.toList.isEmpty = false := by cases h : z.toList with
      | nil => exact absurd h hz2
      | cons a t => rfl
    clear hz
    go_wp2_with (fail)
    (refine bodyPost_ret (v := _) (by simp [results, Tryd.results26, go_sem]; rfl) rfl ?_; refine rsPost_no HN.out rfl ?_; (refine Ok.toEx ?_; (repeat (first | (with_reducible exact Ok.rf _) | (with_reducible refine Ok.alloc ?_ _) | (with_reducible refine Ok.ex ?_ _) | (with_reducible refine Ok.drew ?_) | (with_reducible refine Ok.setCellI ?_ _ _ _) | (with_reducible refine Ok.exb ?_ _)))))
  · have HF := hid (HFIN.out hz)
    have hz2 : z.toList = [] := by rw [hz, ByteArray.toList_eq]
    have hz3 : z.toList.isEmpty = true := by rw [hz2]; rfl
    clear hz
    go_wp2_with (fail)
    clear hz2 hz3 cz
    go_loopw [5, 6, 7, 8] (fun v i _ _ wr => ∃ (q : Nat) (out : List Ln), q ≤ p ∧ i = .int .i64 (q : Int) ∧ Hid (out.map some = (Y.take q).map rdLn) ∧ out.length ≤ 1048576 ∧ Oks out ∧ ∃ j : Ex k.v, wr = j.v ∧ j.v.ownsRow k.v.heap.size 62 3 v out.length (out.flatMap Ln.cells)) (fun _ i _ _ _ => p - (intOf i).toNat)
    case atStart => exact ⟨0, [], Nat.zero_le _, rfl, hid (by simp), by simp, ⟨fun _ h => by simp at h⟩, ex_and (fun W => W.ownsRow k.v.heap.size 62 3 (.slice (some ⟨k.v.heap.size, 0, none⟩) 0 0) ([] : List Ln).length (([] : List Ln).flatMap Ln.cells)) (by (refine Ok.toEx ?_; (repeat (first | (with_reducible exact Ok.rf _) | (with_reducible refine Ok.alloc ?_ _) | (with_reducible refine Ok.ex ?_ _) | (with_reducible refine Ok.drew ?_) | (with_reducible refine Ok.setCellI ?_ _ _ _) | (with_reducible refine Ok.exb ?_ _))))) (row_made k.v k.v.heap.size (Nat.le_refl _) 62 3 Ln.cells)⟩
    case round =>
      obtain ⟨q, out, hq, rfl, HOUT, hol, hoks, j0, rfl, hrow⟩ := hrel
      obtain ⟨A1, d1, rfl, hO, hFr⟩ := Ow.of_row (f := Ln.cells) (fun _ => rfl) hrow
      have HROW := hid hrow
      clear hrow
      by_cases hlt : q < p
      · have hqY : q < Y.length := by rw [HP.out]; exact hlt
        have cy := HAT.out q Y[q] (by rw [HYZ.out, List.getElem?_append_left hqY, List.getElem?_eq_getElem hqY])
        have hys := HYS.out _ (List.getElem_mem hqY)
        have HB : Hid (rdLn Y[q] = none → rsL s = [] ∧ rsB s = false) := hid fun h => HBAD.out q Y[q] (by rw [HYZ.out, List.getElem?_append_left hqY, List.getElem?_eq_getElem hqY]) (by have := HLL.out; omega) h
        have HT : Hid ((Y.take (q + 1)).map rdLn = (Y.take q).map rdLn ++ [rdLn Y[q]]) := hid (by rw [List.take_succ_eq_append_getElem hqY, List.map_append]; rfl)
        have hqi : (q : Int) < (p : Int) := by omega
        have hqL : (q : Int) < (L.length : Int) := by omega
        have hq0 : (0 : Int) ≤ (q : Int) := by omega
        have hol2 : out.length ≤ 1048575 := by
          have h1 := congrArg List.length HOUT.out
          simp only [List.length_map, List.length_take] at h1
          omega
        clear hO hFr
        generalize Y[q] = y at *
        go_upto_region 9 with ((go_at_call 50; go_loud ((refine (sLine_any y _ hys).mono ?_); rintro e w' ⟨x, bx, rfl, hx1, hx2, k3, rfl⟩)))
        cases bx
        · have HN := hid (HB.out (hx2 rfl))
          clear hx1 hx2
          go_wp2_with (fail)
          (refine bodyPost_ret (v := _) (by simp [results, Tryd.results26, go_sem]; rfl) rfl ?_; refine rsPost_no HN.out rfl ?_; (refine Ok.toEx ?_; (repeat (first | (with_reducible exact Ok.rf _) | (with_reducible refine Ok.alloc ?_ _) | (with_reducible refine Ok.ex ?_ _) | (with_reducible refine Ok.drew ?_) | (with_reducible refine Ok.setCellI ?_ _ _ _) | (with_reducible refine Ok.exb ?_ _)))))
        · have HX := hid (hx1 rfl)
          have hxk : x.ok := lnR_ok (fun g hg => Nat.le_trans (sp_size hg) hys) HX.out
          have HXK := hid hxk
          clear hx1 hx2 hxk
          go_wp2_with ((at_builtin; go_loud (refine wpList_appZ Ln.cells _ rfl _ _ _ rfl k.v.heap.size ?_ _ _ _ _ Tryd.underlying28 infoLnR rfl (by omega) (fun _ => ⟨rfl, by simp [Ln.cells, Value.oneCell']⟩) (.slice A1 out.length d1) out rfl (((ownsRow_ex HROW.out k3).alloc _).alloc _) x _ _ rfl (cellsB ?_) ?_ ?_ ?_; (· exact LeB.h); (· simp [Ln.cells]); (· omega); (· omega); intro v2 kk2 hA2)))
          go_roundw
          case rel => exact ⟨q + 1, out ++ [x], by omega, by go_num, hid (by rw [HT.out, List.map_append, HOUT.out]; show _ = _ ++ [lnR (spS 32 y)]; rw [HX.out]; rfl), by simp; omega, oks_snoc hoks HXK.out, ex_and (fun W => W.ownsRow k.v.heap.size 62 3 v2 (out ++ [x]).length ((out ++ [x]).flatMap Ln.cells)) (by (refine Ok.toEx ?_; (repeat (first | (with_reducible exact Ok.rf _) | (with_reducible refine Ok.alloc ?_ _) | (with_reducible refine Ok.ex ?_ _) | (with_reducible refine Ok.drew ?_) | (with_reducible refine Ok.setCellI ?_ _ _ _) | (with_reducible refine Ok.exb ?_ _))))) hA2.own⟩
          case measure => simp [intOf]; omega
      · obtain rfl : q = p := by omega
        have HO2 : Hid (out.map some = Y.map rdLn) := hid (by rw [HOUT.out, ← HP.out, List.take_length])
        have hqi : ¬ (q : Int) < (q : Int) := by omega
        have hInw : Inw j0.v A1 := fun g o' m e => (HROW.out.lt g (by rw [e]; rfl)).2
        have HV := HF.out out HO2.out
        cases hv : vL out
        · have HVV := hid hv
          have HN := hid (HV.2 hv)
          clear hv HV
          go_wp2_with ((go_at_call 51; go_loud ((refine (l15Ok_any A1 d1 out _ hol).mono ?_); rw [HVV.out]; rintro e w' ⟨rfl, k8, rfl⟩)))
          (refine bodyPost_ret (v := _) (by simp [results, Tryd.results26, go_sem]; rfl) rfl ?_; refine rsPost_no HN.out rfl ?_; (refine Ok.toEx ?_; (repeat (first | (with_reducible exact Ok.rf _) | (with_reducible refine Ok.alloc ?_ _) | (with_reducible refine Ok.ex ?_ _) | (with_reducible refine Ok.drew ?_) | (with_reducible refine Ok.setCellI ?_ _ _ _) | (with_reducible refine Ok.exb ?_ _)))))
        · have HVV := hid hv
          have HN := hid (HV.1 hv)
          clear hv HV
          go_wp2_with ((go_at_call 51; go_loud ((refine (l15Ok_any A1 d1 out _ hol).mono ?_); rw [HVV.out]; rintro e w' ⟨rfl, k8, rfl⟩)))
          refine bodyPost_ret (v := _) (by simp [results, Tryd.results26, go_sem]; rfl) rfl ?_
          unfold RsPost
          rw [HN.out.1, HN.out.2]
          refine ⟨A1, d1, by rfl, ex_and (fun W => Ow 3 Ln.cells W A1 out ∧ Fr w A1 ∧ Inw W A1) (by (refine Ok.toEx ?_; (repeat (first | (with_reducible exact Ok.rf _) | (with_reducible refine Ok.alloc ?_ _) | (with_reducible refine Ok.ex ?_ _) | (with_reducible refine Ok.drew ?_) | (with_reducible refine Ok.setCellI ?_ _ _ _) | (with_reducible refine Ok.exb ?_ _))))) ⟨inferInstance, ⟨fun g o' m e => Nat.le_trans (by first | exact k.size | exact (inferInstance : LeB w.heap.size k.v.heap.size).h) (hFr g o' m e)⟩, fun g o' m e => Nat.lt_of_lt_of_le (hInw g o' m e) k8.size⟩⟩
end
end Go.Proofs.YtonmeffhelaohaaDoor
