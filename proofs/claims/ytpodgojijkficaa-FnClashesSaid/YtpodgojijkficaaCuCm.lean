/-
  Marking and checking a row of pairs. Conditions: those typed at each theorem.
-/
import Derived.Test.YtpodgojijkficaaCuCs
namespace Go.Proofs.Ytpodgojijkficaa
open Go.RowKit
section
variable {B : Nat} {e : TypeId} {v : Value} {bs : List Nat} {V : List (List Int)} {w : World}
/-- pair q written over -/
theorem PrR.mark {q : Nat} (h : PrR B e v bs V w) (hq : q < bs.length) {w' : World} {L : List Int} (hL : 0 < L.length) (hb : But (some ⟨bs[q], 0, none⟩) w w') (ho : Ow 1 iC w' (some ⟨bs[q], 0, none⟩) L) : PrR B e v bs (V.set q L) w' := by
  have hbk : ∀ x, x < w.heap.size → x ≠ bs[q] → w'.heap[x]? = w.heap[x]? := fun x hx hn => hb.block x hx fun o e => hn (by cases e; rfl)
  refine ⟨⟨h.own.1, ?_⟩, by simp [h.len], h.nd, fun b hb' => ⟨(h.ge b hb').1, Nat.lt_of_lt_of_le (h.ge b hb').2.1 hb.size, (h.ge b hb').2.2⟩, fun k hk => ?_⟩
  · rcases h.own.2 with h1 | ⟨g, cap, cur, rfl, h2, h3, h4⟩
    · exact .inl h1
    · refine .inr ⟨g, cap, cur, rfl, h2, ?_, h4⟩
      rw [hbk g (Array.getElem?_eq_some_iff.1 h3).1 (fun e => (h.ge _ (List.getElem_mem hq)).2.2 (by rw [← e]; rfl))]
      exact h3
  · by_cases hkq : k = q
    · subst hkq
      obtain ⟨b, he, hw⟩ := ho.own hL
      injection he with he
      injection he with he
      rw [List.getElem_set_self, he]
      exact hw
    · have hne : bs[k] ≠ bs[q] := fun e => hkq ((List.getElem_inj h.nd).1 e)
      rw [List.getElem_set_ne (Ne.symm hkq)]
      exact (h.con k hk).congr (hbk _ (h.ge _ (List.getElem_mem hk)).2.1 hne)
/-- in a world that differs in one block alone -/
theorem PrR.but {w' : World} {b : Nat} (h : PrR B e v bs V w) (hb : But (some ⟨b, 0, none⟩) w w') (hn : b < B) : PrR B e v bs V w' := by
  have hbk : ∀ x, x < w.heap.size → B ≤ x → w'.heap[x]? = w.heap[x]? := fun x hx hn' => hb.block x hx fun o e => by cases e; omega
  refine ⟨⟨h.own.1, ?_⟩, h.len, h.nd, fun b' hb' => ⟨(h.ge b' hb').1, Nat.lt_of_lt_of_le (h.ge b' hb').2.1 hb.size, (h.ge b' hb').2.2⟩, fun k hk => ?_⟩
  · rcases h.own.2 with h1 | ⟨g, cap, cur, rfl, h2, h3, h4⟩
    · exact .inl h1
    · refine .inr ⟨g, cap, cur, rfl, h2, ?_, h4⟩
      rw [hbk g (Array.getElem?_eq_some_iff.1 h3).1 h2]
      exact h3
  · have := h.ge _ (List.getElem_mem hk)
    exact (h.con k hk).congr (hbk _ this.2.1 this.1)
end
/-- V holds the marks of n pairs from k on -/
def PrMk (V : List (List Int)) (k : Int) (n : Nat) : Prop := (∀ x ∈ V, x.length = 2) ∧ ∀ i (h : i < V.length), i < n → V[i] = iMk 2 (k + 2 * (i : Int))
theorem PrMk.step {V : List (List Int)} {k : Int} {n : Nat} (h : PrMk V k n) (hn : n < V.length) : PrMk (V.set n (iMk 2 (k + 2 * (n : Int)))) k (n + 1) := by
  refine ⟨fun x hx => ?_, fun i hi hin => ?_⟩
  · rcases List.mem_or_eq_of_mem_set hx with hx | rfl
    · exact h.1 x hx
    · exact iMk_len _ _
  · rcases Nat.lt_or_ge i n with h1 | h1
    · rw [List.getElem_set_ne (by omega)]
      exact h.2 i _ h1
    · obtain rfl : i = n := by omega
      rw [List.getElem_set_self]
/-- the pair's place in the row -/
theorem PrR.at_ {B : Nat} {e : TypeId} {bs : List Nat} {V : List (List Int)} {w : World} {A : Option Addr} {n c : Nat} (h : PrR B e (.slice A n c) bs V w) {q : Nat} (hq : q < bs.length) :
    ∃ b o, A = some ⟨b, o, none⟩ ∧ LtW b w ∧ w.cell? ⟨b, o + q, none⟩ = some (.slice (some ⟨bs[q], 0, none⟩) 2 2) := by
  obtain ⟨A', c', he, hO, -⟩ := Ow.of_row (f := prC) (fun _ => rfl) h.own
  injection he with e1 e2 e3
  subst e1
  have hrd : Rd 1 prC w A bs := inferInstance
  obtain ⟨b, o, e', hb, hc⟩ := hrd.at_ (by omega)
  refine ⟨b, o, e', hb, ?_⟩
  have := hc q hq 0 _ rfl
  simpa using this
section
set_option maxHeartbeats 3200000
set_option maxRecDepth 20000
theorem markPr_any (W0 : World) (A : Option Addr) (c n : Nat) (bs : List Nat) (V : List (List Int)) (k0 : Int) {e : TypeId} (w : World) [hu : Up W0 w] [hp : PrR W0.heap.size e (.slice A n c) bs V w] (hbn : bs.length = n) (hV : ∀ x ∈ V, x.length = 2) (hn : n ≤ 2000) (h0 : 0 ≤ k0) (h1 : k0 ≤ 10000) :
    Calls Try.prog 43 #[.slice A n c, .int .i64 k0] w fun e' w' => e' = .returned (.int .i64 (k0 + 2 * (n : Int))) ∧ ∃ k : Ex W0, w' = k.v ∧ ∃ V', PrMk V' k0 n ∧ PrR W0.heap.size e (.slice A n c) bs V' k.v := by
  subst hbn
  have HP := hid hp
  have HM0 : Hid (PrMk V k0 0) := hid ⟨hV, fun i h h0 => absurd h0 (by omega)⟩
  clear hV hp
  go_enter Try.func43, Try.ntmps43
  go_wp2
  go_loopw [5, 1] (fun t u wr => ∃ (q : Nat) (V' : List (List Int)), q ≤ bs.length ∧ t = .int .i64 q ∧ u = .int .i64 (k0 + 2 * (q : Int)) ∧ PrMk V' k0 q ∧ ∃ j : Ex W0, wr = j.v ∧ PrR W0.heap.size e (.slice A bs.length c) bs V' j.v) (fun t _ _ => bs.length - (intOf t).toNat)
  case atStart => exact ⟨0, V, Nat.zero_le _, rfl, by go_num, HM0.out, ⟨w, hu.h⟩, rfl, HP.out⟩
  case round =>
    obtain ⟨q, V', hq, rfl, rfl, hm, j0, rfl, hp⟩ := hrel
    have HM := hid hm
    clear hm
    by_cases hlt : q < bs.length
    · obtain ⟨b, o, rfl, hbw, hc⟩ := hp.at_ hlt
      have hqi : (q : Int) < (bs.length : Int) := by omega
      have hlV : q < V'.length := by rw [← hp.len]; exact hlt
      have h2 := HM.out.1 _ (List.getElem_mem hlV)
      have hge := hp.ge _ (List.getElem_mem hlt)
      have hw : Wr 1 iC j0.v bs[q] (V'[q]'hlV) := hp.con q hlt
      have this : LeB W0.heap.size bs[q] := ⟨hge.1⟩
      have HP1 := hid hp
      clear hp
      have HS : Hid (∀ w' L, 0 < L.length → But (some ⟨bs[q], 0, none⟩) j0.v w' → Ow 1 iC w' (some ⟨bs[q], 0, none⟩) L → PrR W0.heap.size e (.slice (some ⟨b, o, none⟩) bs.length c) bs (V'.set q L) w') := hid fun w' L a1 a2 a3 => HP1.out.mark hlt a1 a2 a3
      obtain ⟨g, hG⟩ : ∃ g, bs[q] = g := ⟨_, rfl⟩
      rw [hG] at hc hw HS this hge
      clear hG
      obtain ⟨X, hX⟩ : ∃ X, V'[q] = X := ⟨_, rfl⟩
      rw [hX] at hw h2
      clear hX
      have h22 : ((2 : Nat) : Int) = 2 := rfl
      have hM := markI_any W0 (some ⟨g, 0, none⟩) 2 X (k0 + 2 * (q : Int)) j0.v (by omega) (by omega) (by omega)
      rw [h2] at hM
      have HMC := hid hM
      clear hM
      go_wp2_with (go_at_call 33; go_loud (refine HMC.out.mono ?_; rintro e' w' ⟨rfl, k, rfl, ho, hb⟩))
      go_roundw
      case rel =>
        have hst := HM.out.step hlV
        have hrw := HS.out _ _ (by rw [iMk_len]; omega) hb ho
        clear HS HM HP1 HP HM0
        refine ⟨q + 1, V'.set q (iMk 2 (k0 + 2 * (q : Int))), by omega, ?_, ?_, hst, k, rfl, hrw⟩
        · go_num
        · go_num
      case measure => simp [intOf]; omega
    · obtain rfl : q = bs.length := by omega
      go_wp2
      go_ret
      exact ⟨rfl, j0, rfl, V', HM.out, hp⟩
theorem heldPr_any (A : Option Addr) (c n : Nat) (bs : List Nat) (V : List (List Int)) (k0 : Int) {B : Nat} {e : TypeId} (w : World) [hp : PrR B e (.slice A n c) bs V w] (hbn : bs.length = n) (hm : PrMk V k0 n) (hn : n ≤ 2000) (h0 : 0 ≤ k0) (h1 : k0 ≤ 10000) :
    Calls Try.prog 44 #[.slice A n c, .int .i64 k0] w fun e w' => e = .returned (.int .i64 (k0 + 2 * (n : Int))) ∧ ∃ k : Ex w, w' = k.v := by
  subst hbn
  have HP := hid hp
  have HM := hid hm
  clear hp hm
  go_enter Try.func44, Try.ntmps44
  go_wp2
  go_loopw [5, 1] (fun t u wr => ∃ q : Nat, q ≤ bs.length ∧ t = .int .i64 q ∧ u = .int .i64 (k0 + 2 * (q : Int)) ∧ ∃ j : Ex w, wr = j.v) (fun t _ _ => bs.length - (intOf t).toNat)
  case atStart => exact ⟨0, Nat.zero_le _, rfl, by go_num, Ex.rf w, rfl⟩
  case round =>
    obtain ⟨q, hq, rfl, rfl, j0, rfl⟩ := hrel
    by_cases hlt : q < bs.length
    · have hp := HP.out
      obtain ⟨b, o, rfl, hbw, hc⟩ := hp.at_ hlt
      have hqi : (q : Int) < (bs.length : Int) := by omega
      have hlV : q < V.length := by rw [← hp.len]; exact hlt
      have hw : Wr 1 iC w bs[q] (V[q]'hlV) := hp.con q hlt
      rw [HM.out.2 q hlV hlt] at hw
      have hlt' : LtW bs[q] w := ⟨(hp.ge _ (List.getElem_mem hlt)).2.1⟩
      clear hp
      obtain ⟨g, hG⟩ : ∃ g, bs[q] = g := ⟨_, rfl⟩
      rw [hG] at hc hw hlt'
      clear hG
      go_wp2_with (go_at_call 34; go_loud ((refine (heldI_any (some ⟨g, 0, none⟩) 2 2 _ _ (by omega) (by omega) (by omega)).mono ?_); rintro e' w' ⟨rfl, k, rfl⟩))
      go_roundw
      case rel => exact ⟨q + 1, by omega, by go_num, by go_num, j0.tr k, rfl⟩
      case measure => simp [intOf]; omega
    · obtain rfl : q = bs.length := by omega
      go_wp2
      go_ret
      exact ⟨rfl, j0, rfl⟩
end
end Go.Proofs.Ytpodgojijkficaa
