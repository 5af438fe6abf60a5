/-
  Words read as numbers. Conditions: those typed at each theorem.
-/
import Derived.Test.YtdhflckombkimaaDoorRdW
namespace Go.Proofs.YtdhflckombkimaaDoor
open Go.RowKit
def nuB (l : List ByteArray) : Bool := l.all rdO
def nuV (l : List ByteArray) : List Int := if nuB l then l.map rdV else []
theorem nu_yes {l : List ByteArray} (h : ∀ x ∈ l, rdO x = true) : nuV l = l.map rdV ∧ nuB l = true := by
  have : nuB l = true := List.all_eq_true.2 h
  unfold nuV
  rw [if_pos this]
  exact ⟨rfl, this⟩
theorem nu_no {l : List ByteArray} (h : ∃ x ∈ l, rdO x = false) : nuV l = [] ∧ nuB l = false := by
  have : nuB l = false := by
    obtain ⟨x, hx, h1⟩ := h
    cases hb : nuB l with
    | false => rfl
    | true => have := List.all_eq_true.1 hb x hx; rw [h1] at this; cases this
  unfold nuV
  rw [if_neg (by rw [this]; simp)]
  exact ⟨rfl, this⟩
section
set_option maxHeartbeats 3200000
set_option maxRecDepth 20000
theorem iNumsF_any (A : Option Addr) (c : Nat) (l : List ByteArray) (w : World) [Tb w] [Es w] [Er w] [hl : Rd 1 sC w A l] (hn : l.length ≤ 1048577) (hz : Hid (∀ x ∈ l, x.size ≤ 1048576)) :
    Calls Tryd.prog 38 #[.slice A l.length c] w fun e w' => ∃ A' c', e = .returned (.tuple #[.slice A' (nuV l).length c', .bool (nuB l)]) ∧ ∃ k : Ex w, w' = k.v ∧ Ow 1 iC k.v A' (nuV l) ∧ Fr w A' := by
  have hlen := hl.len
  have HA := hid hl.at_
  have hml : (l.map rdV).length = l.length := List.length_map ..
  have HML := hid hml
  clear hml
  go_enter Tryd.func38, Tryd.ntmps38
  go_wp2_with (at_make; refine wpList_mk _ rfl _ _ _ rfl _ _ _ _ Tryd.underlying50 infoI64 l.length rfl rfl (by omega) (by omega) ?_; intro k0 hb0 hr0)
  have hr0 := hid (Filling.start (f := iC) (l := l.map rdV) (by rw [HML.out]; exact hr0) (Nat.le_refl _))
  go_loopw [14] (fun t wr => ∃ q : Nat, q ≤ l.length ∧ t = .int .i64 q ∧ (∀ k (h : k < l.length), k < q → rdO l[k] = true) ∧ ∃ j : Ex w, wr = j.v ∧ Filling 2 1 iC j.v w.heap.size (l.map rdV) q) (fun t _ => l.length - (intOf t).toNat)
  case atStart => exact ⟨0, Nat.zero_le _, rfl, fun k _ h => absurd h (Nat.not_lt_zero _), k0, rfl, hr0.out⟩
  case round =>
    obtain ⟨q, hq, rfl, hok, j0, rfl, hF⟩ := hrel
    have HOK := hid hok
    clear hok
    by_cases hlt : q < l.length
    · obtain ⟨b, o, rfl, hbw, hc⟩ := HA.out (by omega)
      have c0 := hc q hlt 0 _ rfl
      simp only [Nat.mul_one, Nat.add_zero] at c0
      have hb1 := hF.lt
      obtain ⟨_, r0, f0⟩ := hF.cell q (by rw [HML.out]; omega)
      have HF := hid hF
      have hxs := hz.out _ (List.getElem_mem hlt)
      have HG : Hid ((l.map rdV)[q]'(by rw [HML.out]; exact hlt) = rdV l[q]) := hid (by simp)
      have HM : Hid (l[q] ∈ l) := hid (List.getElem_mem hlt)
      have HQ : Hid (rdO l[q] = true → ∀ k (h : k < l.length), k < q + 1 → rdO l[k] = true) := hid fun hx k hk hk1 => by
        rcases Nat.lt_or_ge k q with h | h
        · exact HOK.out k hk h
        · obtain rfl : k = q := by omega
          exact hx
      clear hF hc
      generalize l[q] = x at *
      have hz1 : (0 : Int) ≤ (q : Int) := by omega
      have hz2 : (q : Int) < (l.length : Int) := by omega
      cases hx : rdO x
      · have HX := hid hx
        have HN := hid (nu_no ⟨x, HM.out, hx⟩)
        clear hx
        go_wp2_with (go_at_call 75; go_loud ((refine (iNum_any x _ hxs).mono ?_); rw [HX.out]; rintro e w' ⟨rfl, k, rfl⟩))
        go_ret2
        rw [HN.out.1, HN.out.2]
        exact ⟨none, 0, rfl, ex_and (fun W => Ow 1 iC W none ([] : List Int) ∧ Fr w none) (by (refine Ok.toEx ?_; (repeat (first | (with_reducible exact Ok.rf _) | (with_reducible refine Ok.alloc ?_ _) | (with_reducible refine Ok.ex ?_ _) | (with_reducible refine Ok.drew ?_) | (with_reducible refine Ok.setCellI ?_ _ _ _) | (with_reducible refine Ok.exb ?_ _))))) ⟨Ow.nil, inferInstance⟩⟩
      · have HX := hid hx
        clear hx
        go_wp2_with (go_at_call 75; go_loud ((refine (iNum_any x _ hxs).mono ?_); rw [HX.out]; rintro e w' ⟨rfl, k, rfl⟩))
        go_roundw
        case rel =>
          refine ⟨q + 1, by omega, by go_num, HQ.out HX.out, ex_and (fun W => Filling _ 1 iC W w.heap.size (l.map rdV) (q + 1)) ?_ ((HF.out.ex k).step1 (by rw [HML.out]; exact hlt) (by rw [HG.out]; rfl))⟩
          (refine Ok.toEx ?_; (repeat (first | (with_reducible exact Ok.rf _) | (with_reducible refine Ok.alloc ?_ _) | (with_reducible refine Ok.ex ?_ _) | (with_reducible refine Ok.drew ?_) | (with_reducible refine Ok.setCellI ?_ _ _ _) | (with_reducible refine Ok.exb ?_ _))))
        case measure => simp [intOf]; omega
    · obtain rfl : q = l.length := by omega
      have HN := hid (nu_yes (l := l) fun x hx => by
        obtain ⟨k, hk, rfl⟩ := List.getElem_of_mem hx
        exact HOK.out k hk hk)
      go_wp2_with (fail)
      go_ret2
      rw [HN.out.1, HN.out.2]
      have hW := hF.done (by rw [HML.out]; exact Nat.le_refl _) (by rw [HML.out]; exact hlen) fun _ => rfl
      exact ⟨some ⟨w.heap.size, 0, none⟩, l.length, by rw [HML.out]; rfl, ex_and (fun W => Ow 1 iC W (some ⟨w.heap.size, 0, none⟩) (l.map rdV) ∧ Fr w (some ⟨w.heap.size, 0, none⟩)) (by (refine Ok.toEx ?_; (repeat (first | (with_reducible exact Ok.rf _) | (with_reducible refine Ok.alloc ?_ _) | (with_reducible refine Ok.ex ?_ _) | (with_reducible refine Ok.drew ?_) | (with_reducible refine Ok.setCellI ?_ _ _ _) | (with_reducible refine Ok.exb ?_ _))))) ⟨inferInstance, inferInstance⟩⟩
theorem iNums_any (A : Option Addr) (c : Nat) (l : List ByteArray) (w : World) [Tb w] [Es w] [Er w] [hl : Rd 1 sC w A l] (hn : l.length ≤ 1048577) (hz : Hid (∀ x ∈ l, x.size ≤ 1048576)) :
    Calls Tryd.prog 38 #[.slice A l.length c] w fun e w' => ∃ A' c', e = .returned (.tuple #[.slice A' (nuV l).length c', .bool (nuB l)]) ∧ ∃ k : Ex w, w' = k.v ∧ Ow 1 iC k.v A' (nuV l) := by
  refine (iNumsF_any A c l w hn hz).mono ?_
  rintro e w' ⟨A', c', rfl, k, rfl, h, -⟩
  exact ⟨A', c', rfl, k, rfl, h⟩
end
end Go.Proofs.YtdhflckombkimaaDoor
