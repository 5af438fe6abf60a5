/-
  AddCue of the specification. Conditions: those typed at each theorem.
-/
import Derived.Test.YthgfnbgdpmbolaaCuPu
import Derived.Test.YthgfnbgdpmbolaaCuF
namespace Go.Proofs.Ythgfnbgdpmbolaa
open Go.RowKit
noncomputable def adV (l : List Cu) (x : Cu) : List Cu := if vCs l = true ∧ vC x = true then (if cIx l x.id < l.length then [] else if l.length = 32 then [] else putL l x) else []
noncomputable def adE (l : List Cu) (x : Cu) : Int := if vCs l = true ∧ vC x = true then (if cIx l x.id < l.length then 4 else if l.length = 32 then 5 else 0) else 1
theorem ad_inv {l : List Cu} {x : Cu} (h : vCs l = false ∨ vC x = false) : adV l x = [] ∧ adE l x = 1 := by
  unfold adV adE
  have hn : ¬ (vCs l = true ∧ vC x = true) := by rintro ⟨h1, h2⟩; rcases h with h | h <;> simp_all
  rw [if_neg hn, if_neg hn]; exact ⟨rfl, rfl⟩
theorem ad_hit {l : List Cu} {x : Cu} {q : Nat} (h1 : vCs l = true) (h2 : vC x = true) (hq : q < l.length) (he : ((cuG l q).id.toList == x.id.toList) = true) (hb : ∀ j, j < q → ((cuG l j).id.toList == x.id.toList) = false) : adV l x = [] ∧ adE l x = 4 := by
  have hh : vCs l = true ∧ vC x = true := ⟨h1, h2⟩
  unfold adV adE; rw [if_pos hh, if_pos hh, cIx_hit hq he hb, if_pos hq, if_pos hq]; exact ⟨rfl, rfl⟩
theorem ad_full {l : List Cu} {x : Cu} (h1 : vCs l = true) (h2 : vC x = true) (hb : ∀ j, j < l.length → ((cuG l j).id.toList == x.id.toList) = false) (hf : l.length = 32) : adV l x = [] ∧ adE l x = 5 := by
  have hh : vCs l = true ∧ vC x = true := ⟨h1, h2⟩
  unfold adV adE; rw [if_pos hh, if_pos hh, cIx_miss hb, if_neg (Nat.lt_irrefl l.length), if_neg (Nat.lt_irrefl l.length), if_pos hf, if_pos hf]; exact ⟨rfl, rfl⟩
theorem ad_go {l : List Cu} {x : Cu} (h1 : vCs l = true) (h2 : vC x = true) (hb : ∀ j, j < l.length → ((cuG l j).id.toList == x.id.toList) = false) (hf : ¬ l.length = 32) : adV l x = putL l x ∧ adE l x = 0 := by
  have hh : vCs l = true ∧ vC x = true := ⟨h1, h2⟩
  unfold adV adE; rw [if_pos hh, if_pos hh, cIx_miss hb, if_neg (Nat.lt_irrefl l.length), if_neg (Nat.lt_irrefl l.length), if_neg hf, if_neg hf]; exact ⟨rfl, rfl⟩
section
set_option maxHeartbeats 3200000
set_option maxRecDepth 20000
theorem sAddCue_any (A : Option Addr) (c : Nat) (l : List Cu) (x : Cu) (w : World) [hk : COks l] [hl : Rd 6 cC w A l] [hp : PlA A c] (hcap : l.length ≤ c) (hn : l.length ≤ 1048576) (hs1 : x.id.size ≤ maxLen) (hs2 : x.tg.size ≤ maxLen) {rv : List Cu} {re : Int} (hrv : adV l x = rv) (hre : adE l x = re) :
    Calls Try.prog 33 #[.slice A l.length c, .agg #[.string x.id, .int .i64 x.t, .int .i64 x.ln, .string x.tg, .int .i64 x.act, .int .i64 x.v]] w fun e w' => ∃ A' c', e = .returned (.tuple #[.slice A' rv.length c', .int .i64 re]) ∧ ∃ k : Ex w, w' = k.v ∧ Ow 6 cC k.v A' rv ∧ Fr w A' ∧ rv.length ≤ c' := by
  subst hrv; subst hre
  have hlen := hl.len
  cases hv : vCs l
  · have HR := hid (ad_inv (x := x) (.inl hv))
    have HV := hid hv
    clear hv
    go_enter Try.func33, Try.ntmps33
    go_wp2_with ((go_at_call 25; (with_reducible refine (sCs_any _ _ l _ ?_ (HV.out)).mono ?_); (· omega); rintro e w' ⟨rfl, k, rfl⟩))
    go_ret2
    rw [HR.out.1, HR.out.2]
    exact ⟨none, 0, by rfl, ex_and (fun W => Ow 6 cC W none ([] : List Cu) ∧ Fr w none ∧ ([] : List Cu).length ≤ 0) (by (refine Ok.toEx ?_; (repeat (first | (with_reducible exact Ok.rf _) | (with_reducible refine Ok.alloc ?_ _) | (with_reducible refine Ok.ex ?_ _) | (with_reducible refine Ok.drew ?_) | (with_reducible refine Ok.setCellI ?_ _ _ _) | (with_reducible refine Ok.exb ?_ _))))) ⟨Ow.nil, inferInstance, Nat.le_refl _⟩⟩
  · have HV := hid hv
    cases hx : vC x
    · have HR := hid (ad_inv (l := l) (.inr hx))
      have HX := hid hx
      clear hv hx
      go_enter Try.func33, Try.ntmps33
      go_wp2_with (first | (go_at_call 25; (with_reducible refine (sCs_any _ _ l _ ?_ (HV.out)).mono ?_); (· omega); rintro e w' ⟨rfl, k, rfl⟩) | (go_at_call 39; (with_reducible refine (sOne_any x _ 0 _ ?_ hs1 hs2 (HX.out)).mono ?_); (· exact ⟨by simp [go_sem], by simp [go_sem], by simp [go_sem], by simp [go_sem], by simp [go_sem], by simp [go_sem]⟩); rintro e w' ⟨rfl, k2, rfl⟩))
      go_ret2
      rw [HR.out.1, HR.out.2]
      exact ⟨none, 0, by rfl, ex_and (fun W => Ow 6 cC W none ([] : List Cu) ∧ Fr w none ∧ ([] : List Cu).length ≤ 0) (by (refine Ok.toEx ?_; (repeat (first | (with_reducible exact Ok.rf _) | (with_reducible refine Ok.alloc ?_ _) | (with_reducible refine Ok.ex ?_ _) | (with_reducible refine Ok.drew ?_) | (with_reducible refine Ok.setCellI ?_ _ _ _) | (with_reducible refine Ok.exb ?_ _))))) ⟨Ow.nil, inferInstance, Nat.le_refl _⟩⟩
    · have HX := hid hx
      rcases cI_part l x.id with ⟨q, hq, he, hb⟩ | hb
      · have HM := hid (cII_hit hq he hb)
        have HR := hid (ad_hit hv hx hq he hb)
        clear hv hx he hb
        go_enter Try.func33, Try.ntmps33
        go_wp2_with (first | (go_at_call 25; (with_reducible refine (sCs_any _ _ l _ ?_ (HV.out)).mono ?_); (· omega); rintro e w' ⟨rfl, k, rfl⟩) | (go_at_call 39; (with_reducible refine (sOne_any x _ 0 _ ?_ hs1 hs2 (HX.out)).mono ?_); (· exact ⟨by simp [go_sem], by simp [go_sem], by simp [go_sem], by simp [go_sem], by simp [go_sem], by simp [go_sem]⟩); rintro e w' ⟨rfl, k2, rfl⟩) | (go_at_call 40; go_loud ((with_reducible refine (find_any _ _ l _ _ (HM.out)).mono ?_); rintro e w' ⟨rfl, rfl⟩)))
        go_ret2
        rw [HR.out.1, HR.out.2]
        exact ⟨none, 0, by rfl, ex_and (fun W => Ow 6 cC W none ([] : List Cu) ∧ Fr w none ∧ ([] : List Cu).length ≤ 0) (by (refine Ok.toEx ?_; (repeat (first | (with_reducible exact Ok.rf _) | (with_reducible refine Ok.alloc ?_ _) | (with_reducible refine Ok.ex ?_ _) | (with_reducible refine Ok.drew ?_) | (with_reducible refine Ok.setCellI ?_ _ _ _) | (with_reducible refine Ok.exb ?_ _))))) ⟨Ow.nil, inferInstance, Nat.le_refl _⟩⟩
      · have HM := hid (cII_miss hb)
        by_cases hf : l.length = 32
        · have HR := hid (ad_full hv hx hb hf)
          have hfi : ((l.length : Int) == 32) = true := by rw [hf]; rfl
          clear hv hx hb hf
          go_enter Try.func33, Try.ntmps33
          go_wp2_with (first | (go_at_call 25; (with_reducible refine (sCs_any _ _ l _ ?_ (HV.out)).mono ?_); (· omega); rintro e w' ⟨rfl, k, rfl⟩) | (go_at_call 39; (with_reducible refine (sOne_any x _ 0 _ ?_ hs1 hs2 (HX.out)).mono ?_); (· exact ⟨by simp [go_sem], by simp [go_sem], by simp [go_sem], by simp [go_sem], by simp [go_sem], by simp [go_sem]⟩); rintro e w' ⟨rfl, k2, rfl⟩) | (go_at_call 40; go_loud ((with_reducible refine (find_any _ _ l _ _ (HM.out)).mono ?_); rintro e w' ⟨rfl, rfl⟩)))
          go_ret2
          rw [HR.out.1, HR.out.2]
          exact ⟨none, 0, by rfl, ex_and (fun W => Ow 6 cC W none ([] : List Cu) ∧ Fr w none ∧ ([] : List Cu).length ≤ 0) (by (refine Ok.toEx ?_; (repeat (first | (with_reducible exact Ok.rf _) | (with_reducible refine Ok.alloc ?_ _) | (with_reducible refine Ok.ex ?_ _) | (with_reducible refine Ok.drew ?_) | (with_reducible refine Ok.setCellI ?_ _ _ _) | (with_reducible refine Ok.exb ?_ _))))) ⟨Ow.nil, inferInstance, Nat.le_refl _⟩⟩
        · have HR := hid (ad_go hv hx hb hf)
          have hfi : ((l.length : Int) == 32) = false := by have : ¬ (l.length : Int) = 32 := by omega
                                                            simpa using this
          clear hv hx hb hf
          go_enter Try.func33, Try.ntmps33
          go_wp2_with (first | (go_at_call 25; (with_reducible refine (sCs_any _ _ l _ ?_ (HV.out)).mono ?_); (· omega); rintro e w' ⟨rfl, k, rfl⟩) | (go_at_call 39; (with_reducible refine (sOne_any x _ 0 _ ?_ hs1 hs2 (HX.out)).mono ?_); (· exact ⟨by simp [go_sem], by simp [go_sem], by simp [go_sem], by simp [go_sem], by simp [go_sem], by simp [go_sem]⟩); rintro e w' ⟨rfl, k2, rfl⟩) | (go_at_call 40; go_loud ((with_reducible refine (find_any _ _ l _ _ (HM.out)).mono ?_); rintro e w' ⟨rfl, rfl⟩)) | (go_at_call 45; (with_reducible refine (putC_any _ _ l x _ ?_ ?_).mono ?_); (· exact hn); (· exact hcap); rintro e w' ⟨g, c9, rfl, k9, rfl, hw9, hg9, hc9⟩))
          go_ret2
          rw [HR.out.1, HR.out.2]
          exact ⟨some ⟨g, 0, none⟩, c9, by rfl, ex_and (fun W => Ow 6 cC W (some ⟨g, 0, none⟩) (putL l x) ∧ Fr w (some ⟨g, 0, none⟩) ∧ (putL l x).length ≤ c9) (by (refine Ok.toEx ?_; (repeat (first | (with_reducible exact Ok.rf _) | (with_reducible refine Ok.alloc ?_ _) | (with_reducible refine Ok.ex ?_ _) | (with_reducible refine Ok.drew ?_) | (with_reducible refine Ok.setCellI ?_ _ _ _) | (with_reducible refine Ok.exb ?_ _))))) ⟨inferInstance, ⟨fun b o m h => by cases h; exact Nat.le_trans (by have := (inferInstance : LeB w.heap.size k2.v.heap.size).h; exact this) hg9.h⟩, hc9⟩⟩
end
end Go.Proofs.Ythgfnbgdpmbolaa
