/-
  DropKey of the specification. Conditions: those typed at each theorem.
-/
import Derived.Test.YtamajnhbfdakfaaTrT
namespace Go.Proofs.Ytamajnhbfdakfaa
open Go.RowKit
/-- where the key of a time stands, or the length -/
def dI (l : List Ky) (t : Int) : Nat := l.findIdx fun k => decide (k.t = t)
theorem dI_hit {l : List Ky} {t : Int} {q : Nat} (h : q < l.length) (he : (kyG l q).t = t) (hb : ∀ j, j < q → (kyG l j).t ≠ t) : dI l t = q := by
  unfold dI
  rw [List.findIdx_eq h]
  refine ⟨by rw [kyG_at h] at he; simpa using he, fun j hj => ?_⟩
  have := hb j hj
  rw [kyG_at (by omega)] at this
  simpa using this
theorem dI_miss {l : List Ky} {t : Int} (hb : ∀ j, j < l.length → (kyG l j).t ≠ t) : dI l t = l.length := by
  unfold dI
  rw [List.findIdx_eq_length]
  intro x hx
  obtain ⟨j, hj, rfl⟩ := List.getElem_of_mem hx
  have := hb j hj
  rw [kyG_at hj] at this
  simpa using this
/-- what DropKey answers -/
noncomputable def drR (nm : ByteArray) (l : List Ky) (t : Int) : TR3 := if vT nm l = true then (if dI l t < l.length then (if l.length = 1 then trErr 6 else ⟨nm, woK l (dI l t), 0⟩) else trErr 3) else trErr 1
theorem drR_inv {nm : ByteArray} {l : List Ky} {t : Int} (h : vT nm l = false) : drR nm l t = trErr 1 := by unfold drR; rw [h]; rfl
theorem drR_miss {nm : ByteArray} {l : List Ky} {t : Int} (h : vT nm l = true) (hb : ∀ j, j < l.length → (kyG l j).t ≠ t) : drR nm l t = trErr 3 := by unfold drR; rw [if_pos h, dI_miss hb, if_neg (by omega)]
theorem drR_one {nm : ByteArray} {l : List Ky} {t : Int} {q : Nat} (h : vT nm l = true) (hq : q < l.length) (he : (kyG l q).t = t) (hb : ∀ j, j < q → (kyG l j).t ≠ t) (h1 : l.length = 1) : drR nm l t = trErr 6 := by unfold drR; rw [if_pos h, dI_hit hq he hb, if_pos hq, if_pos h1]
theorem drR_go {nm : ByteArray} {l : List Ky} {t : Int} {q : Nat} (h : vT nm l = true) (hq : q < l.length) (he : (kyG l q).t = t) (hb : ∀ j, j < q → (kyG l j).t ≠ t) (h1 : l.length ≠ 1) : drR nm l t = ⟨nm, woK l q, 0⟩ := by unfold drR; rw [if_pos h, dI_hit hq he hb, if_pos hq, if_neg h1]
theorem drR_len (nm : ByteArray) (l : List Ky) (t : Int) : (drR nm l t).l.length ≤ 24 := by
  unfold drR
  split
  · rename_i h
    have := (vT_of h).2.1.2
    split
    · rename_i h2
      split
      · simp [trErr]
      · show (woK l (dI l t)).length ≤ 24
        rw [woK_len h2]; omega
    · simp [trErr]
  · simp [trErr]
section
set_option maxHeartbeats 3200000
set_option maxRecDepth 20000
theorem wo_wr (A : Option Addr) (c n : Nat) (l : List Ky) (i : Nat) (w : World) [hl : Rd 2 kC w A l] (hnl : l.length = n) (hi : i < l.length) (h2 : 2 ≤ l.length) (hn : l.length ≤ 1048576) (hc : l.length ≤ c) :
    Calls Try.prog 84 #[.slice A n c, .int .i64 i] w fun e w' => ∃ g c', e = .returned (.slice (some ⟨g, 0, none⟩) (l.length - 1) c') ∧ ∃ k : Ex w, w' = k.v ∧ Wr 2 kC k.v g (woK l i) ∧ LeB w.heap.size g := by
  subst hnl
  refine (wo_any A c l i w hi hn hc).mono fun e w' h => ?_
  obtain ⟨A', c', rfl, k, rfl, ho, hf⟩ := h
  obtain ⟨g, rfl, hw⟩ := ho.own (by rw [woK_len hi]; omega)
  exact ⟨g, c', by rw [woK_len hi], k, rfl, hw, ⟨hf.h _ _ _ rfl⟩⟩
theorem sDrop_any (nm : ByteArray) (A : Option Addr) (c : Nat) (l : List Ky) (t : Int) (w : World) [hl : Rd 2 kC w A l] (hs : nm.size ≤ maxLen) (hn : l.length ≤ 1048576) (hc : l.length ≤ c) :
    Calls Try.prog 39 #[.agg #[.string nm, .slice A l.length c], .int .i64 t] w (TrPost (drR nm l t) w) := by
  cases hv : vT nm l
  · have HR := hid (drR_inv (t := t) hv)
    go_enter Try.func39, Try.ntmps39
    go_wp2_with ((go_at_call 64; (refine (one_any nm A c l _ _ hs hn ?_ ?_).mono ?_); (· simp [go_sem]); (· simp [go_sem]); rw [hv]; rintro e w' ⟨rfl, k, rfl⟩))
    (refine bodyPost_ret (v := _) (by first | (simp [results, Try.results39, go_sem]; done) | (simp [results, Try.results39, go_sem]; rfl)) rfl ?_; rw [HR.out]; refine trPost_err (by rfl) ?_; (refine Ok.toEx ?_; (repeat (first | (with_reducible exact Ok.rf _) | (with_reducible refine Ok.alloc ?_ _) | (with_reducible refine Ok.ex ?_ _) | (with_reducible refine Ok.drew ?_) | (with_reducible refine Ok.setCellI ?_ _ _ _) | (with_reducible refine Ok.exb ?_ _)))))
  · have hk := (vT_of hv).2.vk
    obtain ⟨hk1, hk2⟩ := hk.n
    have HA := hid hl.kg
    have HV := hid hv
    go_enter Try.func39, Try.ntmps39
    go_wp2_with ((go_at_call 64; (refine (one_any nm A c l _ _ hs hn ?_ ?_).mono ?_); (· simp [go_sem]); (· simp [go_sem]); rw [hv]; rintro e w' ⟨rfl, k, rfl⟩))
    clear hv
    go_loopw [6] (fun i wr => ∃ q : Nat, q ≤ l.length ∧ i = .int .i64 q ∧ (∀ j, j < q → (kyG l j).t ≠ t) ∧ wr = k.v) (fun i _ => l.length - (intOf i).toNat)
    case atStart => exact ⟨0, by omega, rfl, fun j hj => absurd hj (by omega), rfl⟩
    case round =>
      obtain ⟨q, hq, rfl, hb, rfl⟩ := hrel
      have HB := hid hb
      clear hb
      by_cases hlt : q < l.length
      · obtain ⟨b', o, rfl, hbw, hc'⟩ := HA.out (by omega)
        obtain ⟨c0, c1⟩ := hc' q hlt
        clear hc'
        by_cases he : (kyG l q).t = t
        · by_cases h1 : l.length = 1
          · have HR := hid (drR_one HV.out hlt he HB.out h1)
            have h1b : ((l.length : Int) == 1) = true := by rw [beq_iff_eq]; omega
            have heb : ((kyG l q).t == t) = true := by rw [beq_iff_eq]; exact he
            clear h1 he
            generalize kyG l q = x at *
            go_wp2
            (refine bodyPost_ret (v := _) (by first | (simp [results, Try.results39, go_sem]; done) | (simp [results, Try.results39, go_sem]; rfl)) rfl ?_; rw [HR.out]; refine trPost_err (by rfl) ?_; (refine Ok.toEx ?_; (repeat (first | (with_reducible exact Ok.rf _) | (with_reducible refine Ok.alloc ?_ _) | (with_reducible refine Ok.ex ?_ _) | (with_reducible refine Ok.drew ?_) | (with_reducible refine Ok.setCellI ?_ _ _ _) | (with_reducible refine Ok.exb ?_ _)))))
          · have HR := hid (drR_go HV.out hlt he HB.out h1)
            have h1b : ((l.length : Int) == 1) = false := by rw [beq_eq_false_iff_ne]; omega
            have heb : ((kyG l q).t == t) = true := by rw [beq_iff_eq]; exact he
            clear he
            have hwl := hid (woK_len hlt)
            generalize kyG l q = x at *
            go_wp2_with (fail)
            go_region_held3 (fun W => W.cell? ⟨w.heap.size, 0, none⟩ = some (.string nm) ∧ W.cell? ⟨w.heap.size, 1, none⟩ = some (.slice (some ⟨b', o, none⟩) l.length c)) ((refine ⟨?_, ?_⟩ <;> simp [go_sem])) (((go_at_call 84; (with_reducible refine (wo_wr _ c l.length l q _ ?_ ?_ ?_ ?_ ?_).mono ?_); (· rfl); (· exact hlt); (· omega); (· omega); (· exact hc); rintro e w' ⟨g, c9, rfl, k9, rfl, hw9, hg9⟩)))
            all_goals
              go_wp2
              haveI : NeB (w.heap.size + 1) g := neb_of hg9
              (refine bodyPost_ret (v := _) (by first | (simp [results, Try.results39, go_sem]; done) | (simp [results, Try.results39, go_sem]; rfl)) rfl ?_; rw [HR.out]; refine trPostN_ok hwl.out (by rfl) ?_ (by infer_instance) ⟨Nat.le_trans (by have := (inferInstance : LeB w.heap.size k.v.drew.heap.size).h; exact this) (hg9).h⟩; (refine Ok.toEx ?_; (repeat (first | (with_reducible exact Ok.rf _) | (with_reducible refine Ok.alloc ?_ _) | (with_reducible refine Ok.ex ?_ _) | (with_reducible refine Ok.drew ?_) | (with_reducible refine Ok.setCellI ?_ _ _ _) | (with_reducible refine Ok.exb ?_ _)))))
        · have heb : ((kyG l q).t == t) = false := by rw [beq_eq_false_iff_ne]; exact he
          have HN : Hid (∀ j, j < q + 1 → (kyG l j).t ≠ t) := hid fun j hj => by
            rcases Nat.lt_or_ge j q with h | h
            · exact HB.out j h
            · obtain rfl : j = q := by omega
              exact he
          generalize hx : kyG l q = x at *
          go_wp2
          go_roundw
          case rel => exact ⟨q + 1, by omega, by go_num, HN.out, by first | rfl | trivial⟩
          case measure => simp [intOf]; omega
      · have HR := hid (drR_miss HV.out fun j hj => HB.out j (by omega))
        go_wp2
        (refine bodyPost_ret (v := _) (by first | (simp [results, Try.results39, go_sem]; done) | (simp [results, Try.results39, go_sem]; rfl)) rfl ?_; rw [HR.out]; refine trPost_err (by rfl) ?_; (refine Ok.toEx ?_; (repeat (first | (with_reducible exact Ok.rf _) | (with_reducible refine Ok.alloc ?_ _) | (with_reducible refine Ok.ex ?_ _) | (with_reducible refine Ok.drew ?_) | (with_reducible refine Ok.setCellI ?_ _ _ _) | (with_reducible refine Ok.exb ?_ _)))))
end
end Go.Proofs.Ytamajnhbfdakfaa
