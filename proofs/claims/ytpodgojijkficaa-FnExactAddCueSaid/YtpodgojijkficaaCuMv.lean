/-
  MoveCue of the specification. Conditions: those typed at each theorem.
-/
import Derived.Test.YtpodgojijkficaaCuAd
import Derived.Test.YtpodgojijkficaaCuWc
import Derived.Deep.RegionHeld3
namespace Go.Proofs.Ytpodgojijkficaa
open Go.RowKit
/-- cue q at another time -/
abbrev atT (x : Cu) (t : Int) : Cu := ⟨x.id, t, x.ln, x.tg, x.act, x.v⟩
/-- what MoveCue leaves, and its code -/
noncomputable def mvR (l : List Cu) (nm : ByteArray) (t : Int) : List Cu × Int :=
  if vCs l = true then (if 0 ≤ t ∧ t ≤ 7200000 then (if cIx l nm < l.length then (if vC (atT (cuG l (cIx l nm)) t) = true then (putL (woC l (cIx l nm)) (atT (cuG l (cIx l nm)) t), 0) else ([], 6)) else ([], 3)) else ([], 2)) else ([], 1)
theorem mv_inv {l : List Cu} {nm : ByteArray} {t : Int} (h : vCs l = false) : mvR l nm t = ([], 1) := by unfold mvR; rw [h]; rfl
theorem mv_rng {l : List Cu} {nm : ByteArray} {t : Int} (h : vCs l = true) (ht : ¬ (0 ≤ t ∧ t ≤ 7200000)) : mvR l nm t = ([], 2) := by unfold mvR; rw [if_pos h, if_neg ht]
theorem mv_miss {l : List Cu} {nm : ByteArray} {t : Int} (h : vCs l = true) (ht : 0 ≤ t ∧ t ≤ 7200000) (hb : ∀ j, j < l.length → ((cuG l j).id.toList == nm.toList) = false) : mvR l nm t = ([], 3) := by unfold mvR; rw [if_pos h, if_pos ht, cIx_miss hb, if_neg (Nat.lt_irrefl _)]
theorem mv_bad {l : List Cu} {nm : ByteArray} {t : Int} {q : Nat} (h : vCs l = true) (ht : 0 ≤ t ∧ t ≤ 7200000) (hq : q < l.length) (he : ((cuG l q).id.toList == nm.toList) = true) (hb : ∀ j, j < q → ((cuG l j).id.toList == nm.toList) = false) (hx : vC (atT (cuG l q) t) = false) : mvR l nm t = ([], 6) := by unfold mvR; rw [if_pos h, if_pos ht, cIx_hit hq he hb, if_pos hq, if_neg (by rw [hx]; simp)]
theorem mv_go {l : List Cu} {nm : ByteArray} {t : Int} {q : Nat} (h : vCs l = true) (ht : 0 ≤ t ∧ t ≤ 7200000) (hq : q < l.length) (he : ((cuG l q).id.toList == nm.toList) = true) (hb : ∀ j, j < q → ((cuG l j).id.toList == nm.toList) = false) (hx : vC (atT (cuG l q) t) = true) : mvR l nm t = (putL (woC l q) (atT (cuG l q) t), 0) := by unfold mvR; rw [if_pos h, if_pos ht, cIx_hit hq he hb, if_pos hq, if_pos hx]
section
set_option maxHeartbeats 3200000
set_option maxRecDepth 20000
theorem sMoveCue_any (A : Option Addr) (c : Nat) (l : List Cu) (nm : ByteArray) (t : Int) (w : World) [hk : COks l] [hl : Rd 6 cC w A l] (hcap : l.length ≤ c) (hn : l.length ≤ 1048576) {R : List Cu × Int} (hR : mvR l nm t = R) :
    Calls Try.prog 49 #[.slice A l.length c, .string nm, .int .i64 t] w fun e w' => ∃ A' c', e = .returned (.tuple #[.slice A' R.1.length c', .int .i64 R.2]) ∧ ∃ k : Ex w, w' = k.v ∧ Ow 6 cC k.v A' R.1 ∧ Fr w A' := by
  subst hR
  have hlen := hl.len
  cases hv : vCs l
  · have HR := hid (mv_inv (nm := nm) (t := t) hv)
    have HV := hid hv
    clear hv
    go_enter Try.func49, Try.ntmps49
    go_wp2_with ((go_at_call 56; (with_reducible refine (sCs_any _ _ l _ ?_ (HV.out)).mono ?_); (· omega); rintro e w' ⟨rfl, k, rfl⟩))
    (go_ret2; rw [HR.out]; exact ⟨none, 0, by rfl, ex_and (fun W => Ow 6 cC W none ([] : List Cu) ∧ Fr w none) (by (refine Ok.toEx ?_; (repeat (first | (with_reducible exact Ok.rf _) | (with_reducible refine Ok.alloc ?_ _) | (with_reducible refine Ok.ex ?_ _) | (with_reducible refine Ok.drew ?_) | (with_reducible refine Ok.setCellI ?_ _ _ _) | (with_reducible refine Ok.exb ?_ _))))) ⟨Ow.nil, inferInstance⟩⟩)
  · have HV := hid hv
    by_cases ht : 0 ≤ t ∧ t ≤ 7200000
    rotate_left
    · have HR := hid (mv_rng (nm := nm) hv ht)
      have ht' : t < 0 ∨ 7200000 < t := by omega
      clear hv ht
      go_enter Try.func49, Try.ntmps49
      go_wp2_with (first | (go_at_call 56; (with_reducible refine (sCs_any _ _ l _ ?_ (HV.out)).mono ?_); (· omega); rintro e w' ⟨rfl, k, rfl⟩) | (go_at_call 66; first | (refine (ct_yes _ _ (by omega) (by omega)).mono ?_; rintro e w' ⟨rfl, rfl⟩) | (refine (ct_no _ _ (by omega)).mono ?_; rintro e w' ⟨rfl, rfl⟩)))
      (go_ret2; rw [HR.out]; exact ⟨none, 0, by rfl, ex_and (fun W => Ow 6 cC W none ([] : List Cu) ∧ Fr w none) (by (refine Ok.toEx ?_; (repeat (first | (with_reducible exact Ok.rf _) | (with_reducible refine Ok.alloc ?_ _) | (with_reducible refine Ok.ex ?_ _) | (with_reducible refine Ok.drew ?_) | (with_reducible refine Ok.setCellI ?_ _ _ _) | (with_reducible refine Ok.exb ?_ _))))) ⟨Ow.nil, inferInstance⟩⟩)
    · rcases cI_part l nm with ⟨q, hq, he, hb⟩ | hb
      · have HM := hid (cII_hit hq he hb)
        obtain ⟨b, o, rfl, hbw, hat⟩ := hl.cu (by omega)
        obtain ⟨e0, e1, e2, e3, e4, e5⟩ := hat q hq
        clear hat
        have hy1 : (cuG l q).id.size ≤ maxLen := by rw [cuG_at hq]; exact (hk.h _ (List.getElem_mem hq)).1
        have hy2 : (cuG l q).tg.size ≤ maxLen := by rw [cuG_at hq]; exact (hk.h _ (List.getElem_mem hq)).2.1
        have hz1 : (atT (cuG l q) t).id.size ≤ maxLen := hy1
        have hz2 : (atT (cuG l q) t).tg.size ≤ maxLen := hy2
        cases hx : vC (atT (cuG l q) t)
        · have HR := hid (mv_bad hv ht hq he hb hx)
          have HX := hid hx
          obtain ⟨ht1, ht2⟩ := ht
          clear hv hb he hx
          generalize cuG l q = x at *
          go_enter Try.func49, Try.ntmps49
          go_wp2_with (first | (go_at_call 56; (with_reducible refine (sCs_any _ _ l _ ?_ (HV.out)).mono ?_); (· omega); rintro e w' ⟨rfl, k, rfl⟩) | (go_at_call 66; first | (refine (ct_yes _ _ (by omega) (by omega)).mono ?_; rintro e w' ⟨rfl, rfl⟩) | (refine (ct_no _ _ (by omega)).mono ?_; rintro e w' ⟨rfl, rfl⟩)) | (go_at_call 57; go_loud ((with_reducible refine (find_any _ _ l _ _ (HM.out)).mono ?_); rintro e w' ⟨rfl, rfl⟩)) | (go_at_call 75; go_loud ((with_reducible refine (sOne_any (atT x t) _ 0 _ ?_ hz1 hz2 (HX.out)).mono ?_); (· exact ⟨by simp [go_sem, atT], by simp [go_sem, atT], by simp [go_sem, atT], by simp [go_sem, atT], by simp [go_sem, atT], by simp [go_sem, atT]⟩); rintro e w' ⟨rfl, k2, rfl⟩)))
          (go_ret2; rw [HR.out]; exact ⟨none, 0, by rfl, ex_and (fun W => Ow 6 cC W none ([] : List Cu) ∧ Fr w none) (by (refine Ok.toEx ?_; (repeat (first | (with_reducible exact Ok.rf _) | (with_reducible refine Ok.alloc ?_ _) | (with_reducible refine Ok.ex ?_ _) | (with_reducible refine Ok.drew ?_) | (with_reducible refine Ok.setCellI ?_ _ _ _) | (with_reducible refine Ok.exb ?_ _))))) ⟨Ow.nil, inferInstance⟩⟩)
        · have HR := hid (mv_go hv ht hq he hb hx)
          have HX := hid hx
          have hwl := hid (woC_len hq)
          obtain ⟨ht1, ht2⟩ := ht
          clear hv hb he hx
          generalize cuG l q = x at *
          go_enter Try.func49, Try.ntmps49
          go_wp2_with (first | (go_at_call 56; (with_reducible refine (sCs_any _ _ l _ ?_ (HV.out)).mono ?_); (· omega); rintro e w' ⟨rfl, k, rfl⟩) | (go_at_call 66; first | (refine (ct_yes _ _ (by omega) (by omega)).mono ?_; rintro e w' ⟨rfl, rfl⟩) | (refine (ct_no _ _ (by omega)).mono ?_; rintro e w' ⟨rfl, rfl⟩)) | (go_at_call 57; go_loud ((with_reducible refine (find_any _ _ l _ _ (HM.out)).mono ?_); rintro e w' ⟨rfl, rfl⟩)) | (go_at_call 75; go_loud ((with_reducible refine (sOne_any (atT x t) _ 0 _ ?_ hz1 hz2 (HX.out)).mono ?_); (· exact ⟨by simp [go_sem, atT], by simp [go_sem, atT], by simp [go_sem, atT], by simp [go_sem, atT], by simp [go_sem, atT], by simp [go_sem, atT]⟩); rintro e w' ⟨rfl, k2, rfl⟩)))
          go_region_held3 (fun W => W.cell? ⟨k.v.heap.size, 0, none⟩ = some (.string x.id) ∧ W.cell? ⟨k.v.heap.size, 1, none⟩ = some (.int .i64 t) ∧ W.cell? ⟨k.v.heap.size, 2, none⟩ = some (.int .i64 x.ln) ∧ W.cell? ⟨k.v.heap.size, 3, none⟩ = some (.string x.tg) ∧ W.cell? ⟨k.v.heap.size, 4, none⟩ = some (.int .i64 x.act) ∧ W.cell? ⟨k.v.heap.size, 5, none⟩ = some (.int .i64 x.v)) ((refine ⟨?_, ?_, ?_, ?_, ?_, ?_⟩ <;> simp [go_sem])) ((first | (go_at_call 72; (with_reducible refine (wo_cap _ _ l q _ ?_ ?_ ?_).mono ?_); (· exact hq); (· omega); (· exact hcap); rintro e w' ⟨A1, c1, rfl, k3, rfl, ⟨hO, hF⟩, hcp, hpl⟩) | (go_at_call 76; go_loud ((with_reducible refine (putC_any (hl := ?_) (hp := ?_) A1 c1 (woC l q) (atT x t) _ ?_ ?_).mono ?_); (· infer_instance); (· exact hpl); (· rw [hwl.out]; omega); (· exact hcp); rintro e w' ⟨g, c9, rfl, k9, rfl, hw9, hg9, -⟩))))
          all_goals
            go_wp2
            go_ret2
            rw [HR.out]
            exact ⟨some ⟨g, 0, none⟩, c9, by rfl, ex_and (fun W => Ow 6 cC W (some ⟨g, 0, none⟩) (putL (woC l q) (atT x t)) ∧ Fr w (some ⟨g, 0, none⟩)) (by (refine Ok.toEx ?_; (repeat (first | (with_reducible exact Ok.rf _) | (with_reducible refine Ok.alloc ?_ _) | (with_reducible refine Ok.ex ?_ _) | (with_reducible refine Ok.drew ?_) | (with_reducible refine Ok.setCellI ?_ _ _ _) | (with_reducible refine Ok.exb ?_ _))))) ⟨inferInstance, ⟨fun b o m h => by cases h; exact Nat.le_trans (by first | exact (inferInstance : LeB w.heap.size k3.v.heap.size).h | exact (inferInstance : LeB w.heap.size k3.v.drew.heap.size).h) hg9.h⟩⟩⟩
      · have HM := hid (cII_miss hb)
        have HR := hid (mv_miss hv ht hb)
        obtain ⟨ht1, ht2⟩ := ht
        clear hv hb
        go_enter Try.func49, Try.ntmps49
        go_wp2_with (first | (go_at_call 56; (with_reducible refine (sCs_any _ _ l _ ?_ (HV.out)).mono ?_); (· omega); rintro e w' ⟨rfl, k, rfl⟩) | (go_at_call 66; first | (refine (ct_yes _ _ (by omega) (by omega)).mono ?_; rintro e w' ⟨rfl, rfl⟩) | (refine (ct_no _ _ (by omega)).mono ?_; rintro e w' ⟨rfl, rfl⟩)) | (go_at_call 57; go_loud ((with_reducible refine (find_any _ _ l _ _ (HM.out)).mono ?_); rintro e w' ⟨rfl, rfl⟩)))
        (go_ret2; rw [HR.out]; exact ⟨none, 0, by rfl, ex_and (fun W => Ow 6 cC W none ([] : List Cu) ∧ Fr w none) (by (refine Ok.toEx ?_; (repeat (first | (with_reducible exact Ok.rf _) | (with_reducible refine Ok.alloc ?_ _) | (with_reducible refine Ok.ex ?_ _) | (with_reducible refine Ok.drew ?_) | (with_reducible refine Ok.setCellI ?_ _ _ _) | (with_reducible refine Ok.exb ?_ _))))) ⟨Ow.nil, inferInstance⟩⟩)
end
end Go.Proofs.Ytpodgojijkficaa
