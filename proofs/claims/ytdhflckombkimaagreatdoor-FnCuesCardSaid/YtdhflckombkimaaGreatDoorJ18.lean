/-
  slices.Clone of cues. Conditions: those typed at each theorem.
  A cue put to its place: l13Put. Conditions: those typed at each theorem.
  AddCue of the specification. Conditions: those typed at each theorem.
-/
import Derived.Test.YtdhflckombkimaaGreatDoorJ16
import Derived.Test.YtdhflckombkimaaGreatDoorJ11
import Derived.Lib.SliceRun
namespace Go.Proofs.YtdhflckombkimaaGreatDoor
open Go.RowKit
section
set_option maxHeartbeats 3200000
set_option maxRecDepth 20000
theorem clone_row (A : Option Addr) (c : Nat) (l : List Cu) (w : World) [hl : Rd 6 cC w A l] (h1 : 1 ≤ l.length) (hn : l.length ≤ 1048576) :
    Calls Tryz.prog 25 #[.slice A l.length c] w fun e w' => ∃ g c', e = .returned (.slice (some ⟨g, 0, none⟩) l.length c') ∧ l.length ≤ c' ∧ ∃ k : Ex w, w' = k.v ∧ k.v.ownsRow w.heap.size 28 6 (.slice (some ⟨g, 0, none⟩) l.length c') l.length (l.flatMap cC) ∧ Wr 6 cC k.v g l ∧ LeB w.heap.size g := by
  obtain ⟨b, o, rfl, hbw, -⟩ := hl.at_ (by omega)
  have q27 : ∀ (w : World) (a : Option Addr) (n c n' c' : Nat), (binOp .eql 24 (.slice a n c) (.slice none n' c')).run Tryz.prog w = .ok (.bool a.isNone) w := fun w a n c n' c' => Lib.run_eql_slice_nil w _ _ a n c n' c' Tryz.underlying24
  go_enter Tryz.func25, Tryz.ntmps25
  go_wp2_with (at_builtin; refine wpList_appN cC _ rfl _ _ _ rfl w.heap.size ?_ _ _ _ _ Tryz.underlying24 infoCue rfl (by omega) (fun _ => ⟨rfl, by simp [cC, Value.oneCell']⟩) (.slice (some ⟨w.heap.size, 0, none⟩) 0 0) [] rfl ?_ (some ⟨b, o, none⟩) l c rfl ?_ (fun h => by cases h) ?_ ?_ ?_; (· simp); (· exact World.ownsRow_made _ #[] 0 (Nat.le_refl _) (by simp [maxLen]) (by simp)); (· infer_instance); (· simp; omega); (· simp; omega); intro v' k' hown')
  go_ret
  obtain ⟨A2, c2, hv, hO2, hF2⟩ := Ow.of_row (f := cC) (fun _ => rfl) hown'
  subst hv
  obtain ⟨g, rfl, hg⟩ := hO2.own (by simp; omega)
  refine ⟨g, c2, by simp, ?_, ex_and (fun W => W.ownsRow w.heap.size 28 6 (.slice (some ⟨g, 0, none⟩) l.length c2) l.length (l.flatMap cC) ∧ Wr 6 cC W g l ∧ LeB w.heap.size g) (by (refine Ok.toEx ?_; (repeat (first | (with_reducible exact Ok.rf _) | (with_reducible refine Ok.alloc ?_ _) | (with_reducible refine Ok.ex ?_ _) | (with_reducible refine Ok.drew ?_) | (with_reducible refine Ok.setCellI ?_ _ _ _) | (with_reducible refine Ok.exb ?_ _))))) ⟨by simpa using hown', by simpa using hg, ⟨hF2 g 0 none rfl⟩⟩⟩
  rcases hown'.2 with ⟨h, _⟩ | ⟨g', cap, cur, h, _, _, hc, _⟩
  · cases h
  · cases h; simpa using hc
theorem clone_own (A : Option Addr) (c : Nat) (l : List Cu) (w : World) [hl : Rd 6 cC w A l] [hp : PlA A c] (hn : l.length ≤ 1048576) :
    Calls Tryz.prog 25 #[.slice A l.length c] w fun e w' => ∃ A' c', e = .returned (.slice A' l.length c') ∧ ∃ k : Ex w, w' = k.v ∧ k.v.ownsRow w.heap.size 28 6 (.slice A' l.length c') l.length (l.flatMap cC) := by
  by_cases h1 : 1 ≤ l.length
  · refine (clone_row A c l w h1 hn).mono ?_
    rintro e w' ⟨g, c', rfl, -, k, rfl, h, -⟩
    exact ⟨_, _, rfl, k, rfl, h⟩
  · have hz : l = [] := List.eq_nil_of_length_eq_zero (by omega)
    subst hz
    have q27 : ∀ (w : World) (a : Option Addr) (n c n' c' : Nat), (binOp .eql 24 (.slice a n c) (.slice none n' c')).run Tryz.prog w = .ok (.bool a.isNone) w := fun w a n c n' c' => Lib.run_eql_slice_nil w _ _ a n c n' c' Tryz.underlying24
    rcases hp.h with ⟨rfl, rfl⟩ | ⟨b, o, rfl⟩
    · have hrow := hid (row_nil w w.heap.size 28 6 cC)
      go_enter Tryz.func25, Tryz.ntmps25
      go_wp2
      go_ret
      exact ⟨none, 0, rfl, Ex.rf w, rfl, hrow.out⟩
    · have hrow := hid (row_made w w.heap.size (Nat.le_refl _) 28 6 cC)
      go_enter Tryz.func25, Tryz.ntmps25
      go_wp2
      go_ret
      exact ⟨some ⟨w.heap.size, 0, none⟩, 0, rfl, ex_and (fun W => W.ownsRow w.heap.size 28 6 (.slice (some ⟨w.heap.size, 0, none⟩) 0 0) ([] : List Cu).length (([] : List Cu).flatMap cC)) (by (refine Ok.toEx ?_; (repeat (first | (with_reducible exact Ok.rf _) | (with_reducible refine Ok.alloc ?_ _) | (with_reducible refine Ok.ex ?_ _) | (with_reducible refine Ok.drew ?_) | (with_reducible refine Ok.setCellI ?_ _ _ _) | (with_reducible refine Ok.exb ?_ _))))) hrow.out⟩
end
end Go.Proofs.YtdhflckombkimaaGreatDoor
namespace Go.Proofs.YtdhflckombkimaaGreatDoor
open Go.RowKit
/-- the place of c among the first k cues of l, sought from behind -/
def putS (l : List Cu) (c : Cu) : Nat → Nat
  | 0 => 0
  | k + 1 => if befB c (cuG l k) = true then putS l c k else k + 1
theorem putS_le (l : List Cu) (c : Cu) : ∀ k, putS l c k ≤ k
  | 0 => Nat.le_refl _
  | k + 1 => by
    have := putS_le l c k
    unfold putS
    split <;> omega
def putL (l : List Cu) (c : Cu) : List Cu := (l.take (putS l c l.length) ++ [c]) ++ l.drop (putS l c l.length)
theorem putL_len (l : List Cu) (c : Cu) : (putL l c).length = l.length + 1 := by
  have := putS_le l c l.length
  unfold putL
  simp only [List.length_append, List.length_take, List.length_singleton, List.length_drop]
  omega
section
set_option maxHeartbeats 3200000
set_option maxRecDepth 20000
theorem put_any (A : Option Addr) (c : Nat) (l : List Cu) (x : Cu) (w : World) [hl : Rd 6 cC w A l] (h1 : 1 ≤ l.length) (hn : l.length ≤ 1048576) (hc : l.length ≤ c) :
    Calls Tryz.prog 51 #[.slice A l.length c, .agg #[.string x.id, .int .i64 x.t, .int .i64 x.ln, .string x.tg, .int .i64 x.act, .int .i64 x.v]] w fun e w' => ∃ g c', e = .returned (.slice (some ⟨g, 0, none⟩) (putL l x).length c') ∧ ∃ k : Ex w, w' = k.v ∧ Wr 6 cC k.v g (putL l x) ∧ LeB w.heap.size g ∧ (putL l x).length ≤ c' := by
  obtain ⟨b, o, rfl, hbw, hat⟩ := hl.cu (by omega)
  have HAT := hid hat
  clear hat
  go_enter Tryz.func51, Tryz.ntmps51
  go_wp2
  go_loopw [5] (fun t wr => ∃ q : Nat, q ≤ l.length ∧ t = .int .i64 q ∧ putS l x q = putS l x l.length ∧ ∃ j : Ex (w.alloc (.cells #[.string x.id, .int .i64 x.t, .int .i64 x.ln, .string x.tg, .int .i64 x.act, .int .i64 x.v] 28)), wr = j.v) (fun t _ => (intOf t).toNat)
  case atStart => exact ⟨l.length, Nat.le_refl _, rfl, rfl, Ex.rf _, rfl⟩
  case round =>
    obtain ⟨q, hq, rfl, hp, j0, rfl⟩ := hrel
    have g0 : (0 : Int) ≤ (q : Int) := by omega
    have g1 : (q : Int) ≤ (c : Int) := by omega
    have g2 : (q : Int) ≤ (l.length : Int) := by omega
    have g5 : q ≤ c := by omega
    have g6 : q ≤ l.length := hq
    have hti : (l.take q).length = q := by rw [List.length_take]; omega
    have htd : (l.drop q).length = l.length - q := List.length_drop ..
    haveI r1 := Rd.take hl q
    haveI r2 := Rd.drop hl q
    rcases Nat.eq_zero_or_pos q with hq0 | hq0
    · have HP : Hid (putS l x l.length = q) := hid (by rw [← hp, hq0]; rfl)
      clear hp
      have hz3 : ¬ (0 : Int) < (q : Int) := by omega
      clear hq0
      (by_cases hcl : c = q; (· first | (exfalso; omega) | (have hnil : l.drop q = [] := List.drop_eq_nil_of_le (by omega); have HN := hid hnil; clear hnil; have hlen0 : l.length = q := (by omega); go_wp2_with (first | fail | (at_builtin; refine wpList_appM cC _ rfl _ _ _ rfl j0.v.heap.size ?_ _ _ _ _ Tryz.underlying24 infoCue rfl (by omega) (fun _ => ⟨rfl, by simp [cC, Value.oneCell']⟩) _ [] rfl (row_made j0.v j0.v.heap.size (Nat.le_refl _) 28 6 cC) b o (l.take q) _ (by rw [hti]; rfl) ?_ ?_ ?_ ?_; (· simp); (· infer_instance); (· (try simp); (try omega)); (· (try simp); (try omega)); intro v1 k1 hA1; have hk1 : j0.v.heap.size ≤ k1.v.heap.size := Nat.le_trans (by simp) k1.h.size; have kB1 : Below j0.v.heap.size j0.v k1.v := ((Below.refl _ _).alloc (Nat.le_refl _) _).trans k1.h) | (at_builtin; go_loud (refine wpList_appZ cC _ rfl _ _ _ rfl j0.v.heap.size ?_ _ _ _ _ Tryz.underlying24 infoCue rfl (by omega) (fun _ => ⟨rfl, by simp [cC, Value.oneCell']⟩) v1 (l.take q) rfl (hA1.own.alloc _) x _ _ rfl (cellsB ?_) ?_ ?_ ?_; (· (try simp); (try omega)); (· simp); (· (try simp); (try omega)); (· (try simp); (try omega)); intro v2 k2 hA2; have hk2 : j0.v.heap.size ≤ k2.v.heap.size := Nat.le_trans hk1 (Nat.le_trans (by simp) k2.h.size); have kB2 : Below j0.v.heap.size j0.v k2.v := (kB1.alloc hk1 _).trans k2.h; haveI r3 : Rd 6 cC k2.v (some ⟨b, o + q * 6, none⟩) (l.drop q) := Rd.ex (h := (inferInstanceAs (Rd 6 cC j0.v (some ⟨b, o + q * 6, none⟩) (l.drop q)))) (Ex.of kB2))) | (at_builtin; go_loud (refine wpList_appM cC _ rfl _ _ _ rfl j0.v.heap.size ?_ _ _ _ _ Tryz.underlying24 infoCue rfl (by omega) (fun _ => ⟨rfl, by simp [cC, Value.oneCell']⟩) v2 (l.take q ++ [x]) rfl hA2.own b o [] 0 rfl ?_ ?_ ?_ ?_; (· exact hk2); (· first | infer_instance | exact ⟨by simp, fun h => absurd h (by simp)⟩); (· (try simp); (try omega)); (· (try simp); (try omega)); intro v3 k3 hA3))); (obtain ⟨A3, c3, he, hO3, hF3⟩ := Ow.of_row (f := cC) (fun _ => rfl) hA3.own; subst he; have hcp3 := (own_cap hA3.own).1; go_ret; obtain ⟨g, rfl, hg⟩ := hO3.own (by simp; (try omega)); have hput : putL l x = l.take q ++ [x] ++ [] := (by unfold putL; rw [HP.out, HN.out]); rw [hput]; have hle1 := hF3 g 0 none rfl; have hle2 := (inferInstance : LeB w.heap.size j0.v.heap.size).h; have hex := ex_and (fun W => Wr 6 cC W g (l.take q ++ [x] ++ []) ∧ LeB w.heap.size g ∧ (l.take q ++ [x] ++ []).length ≤ c3) (w0 := w) (W := k3.v) (by (refine Ok.toEx ?_; (repeat (first | (with_reducible exact Ok.rf _) | (with_reducible refine Ok.alloc ?_ _) | (with_reducible refine Ok.ex ?_ _) | (with_reducible refine Ok.drew ?_) | (with_reducible refine Ok.setCellI ?_ _ _ _) | (with_reducible refine Ok.exb ?_ _))))) ⟨hg, ⟨(by omega)⟩, hcp3⟩; first | (refine ⟨g, ⟨c3, ?_⟩, hex⟩; (rfl; done)) | (refine ⟨g, c3, ?_, hex⟩; (rfl; done))))); (· go_wp2_with (first | fail | (at_builtin; refine wpList_appM cC _ rfl _ _ _ rfl j0.v.heap.size ?_ _ _ _ _ Tryz.underlying24 infoCue rfl (by omega) (fun _ => ⟨rfl, by simp [cC, Value.oneCell']⟩) _ [] rfl (row_made j0.v j0.v.heap.size (Nat.le_refl _) 28 6 cC) b o (l.take q) _ (by rw [hti]; rfl) ?_ ?_ ?_ ?_; (· simp); (· infer_instance); (· (try simp); (try omega)); (· (try simp); (try omega)); intro v1 k1 hA1; have hk1 : j0.v.heap.size ≤ k1.v.heap.size := Nat.le_trans (by simp) k1.h.size; have kB1 : Below j0.v.heap.size j0.v k1.v := ((Below.refl _ _).alloc (Nat.le_refl _) _).trans k1.h) | (at_builtin; go_loud (refine wpList_appZ cC _ rfl _ _ _ rfl j0.v.heap.size ?_ _ _ _ _ Tryz.underlying24 infoCue rfl (by omega) (fun _ => ⟨rfl, by simp [cC, Value.oneCell']⟩) v1 (l.take q) rfl (hA1.own.alloc _) x _ _ rfl (cellsB ?_) ?_ ?_ ?_; (· (try simp); (try omega)); (· simp); (· (try simp); (try omega)); (· (try simp); (try omega)); intro v2 k2 hA2; have hk2 : j0.v.heap.size ≤ k2.v.heap.size := Nat.le_trans hk1 (Nat.le_trans (by simp) k2.h.size); have kB2 : Below j0.v.heap.size j0.v k2.v := (kB1.alloc hk1 _).trans k2.h; haveI r3 : Rd 6 cC k2.v (some ⟨b, o + q * 6, none⟩) (l.drop q) := Rd.ex (h := (inferInstanceAs (Rd 6 cC j0.v (some ⟨b, o + q * 6, none⟩) (l.drop q)))) (Ex.of kB2))) | (at_builtin; go_loud (refine wpList_appM cC _ rfl _ _ _ rfl j0.v.heap.size ?_ _ _ _ _ Tryz.underlying24 infoCue rfl (by omega) (fun _ => ⟨rfl, by simp [cC, Value.oneCell']⟩) v2 (l.take q ++ [x]) rfl hA2.own b (o + q * 6) (l.drop q) (c - q) (by rw [htd]; rfl) ?_ ?_ ?_ ?_; (· exact hk2); (· first | infer_instance | exact ⟨by simp, fun h => absurd h (by simp)⟩); (· (try simp); (try omega)); (· (try simp); (try omega)); intro v3 k3 hA3))); (obtain ⟨A3, c3, he, hO3, hF3⟩ := Ow.of_row (f := cC) (fun _ => rfl) hA3.own; subst he; have hcp3 := (own_cap hA3.own).1; go_ret; obtain ⟨g, rfl, hg⟩ := hO3.own (by simp; (try omega)); have hput : putL l x = l.take q ++ [x] ++ l.drop q := (by unfold putL; rw [HP.out]); rw [hput]; have hle1 := hF3 g 0 none rfl; have hle2 := (inferInstance : LeB w.heap.size j0.v.heap.size).h; have hex := ex_and (fun W => Wr 6 cC W g (l.take q ++ [x] ++ l.drop q) ∧ LeB w.heap.size g ∧ (l.take q ++ [x] ++ l.drop q).length ≤ c3) (w0 := w) (W := k3.v) (by (refine Ok.toEx ?_; (repeat (first | (with_reducible exact Ok.rf _) | (with_reducible refine Ok.alloc ?_ _) | (with_reducible refine Ok.ex ?_ _) | (with_reducible refine Ok.drew ?_) | (with_reducible refine Ok.setCellI ?_ _ _ _) | (with_reducible refine Ok.exb ?_ _))))) ⟨hg, ⟨(by omega)⟩, hcp3⟩; first | (refine ⟨g, ⟨c3, ?_⟩, hex⟩; (rfl; done)) | (refine ⟨g, c3, ?_, hex⟩; (rfl; done)))))
    · obtain ⟨p, hpq⟩ : ∃ p, q = p + 1 := ⟨q - 1, by omega⟩
      have hAt := HAT.out p (by omega)
      have hz1 : IntKind.i64.wrap (p : Int) = p := IntWalk.i64_in _ (by omega)
      have hz2 : (p : Int) < (l.length : Int) := by omega
      have hz3 : (0 : Int) < (q : Int) := by omega
      have hz4 : (q : Int) - 1 = (p : Int) := by omega
      cases hb : befB x (cuG l p)
      · have HB := hid hb
        have HP : Hid (putS l x l.length = q) := hid (by rw [← hp, hpq]; unfold putS; rw [hb]; rfl)
        clear hp hb hpq hq0
        (by_cases hcl : c = q; (· first | (exfalso; omega) | (have hnil : l.drop q = [] := List.drop_eq_nil_of_le (by omega); have HN := hid hnil; clear hnil; have hlen0 : l.length = q := (by omega); go_wp2_with (first | (go_at_call 73; (with_reducible refine (before_any x (cuG l p) _ 0 b _ _ ?_ ?_ (HB.out)).mono ?_); (· exact ⟨by simp [go_sem], by simp [go_sem], by simp [go_sem], by simp [go_sem], by simp [go_sem], by simp [go_sem]⟩); (· exact CuAt.up hAt); rintro e w' ⟨rfl, k, rfl⟩) | (at_builtin; refine wpList_appM cC _ rfl _ _ _ rfl k.v.heap.size ?_ _ _ _ _ Tryz.underlying24 infoCue rfl (by omega) (fun _ => ⟨rfl, by simp [cC, Value.oneCell']⟩) _ [] rfl (row_made k.v k.v.heap.size (Nat.le_refl _) 28 6 cC) b o (l.take q) _ (by rw [hti]; rfl) ?_ ?_ ?_ ?_; (· simp); (· infer_instance); (· (try simp); (try omega)); (· (try simp); (try omega)); intro v1 k1 hA1; have hk1 : k.v.heap.size ≤ k1.v.heap.size := Nat.le_trans (by simp) k1.h.size; have kB1 : Below k.v.heap.size k.v k1.v := ((Below.refl _ _).alloc (Nat.le_refl _) _).trans k1.h) | (at_builtin; go_loud (refine wpList_appZ cC _ rfl _ _ _ rfl k.v.heap.size ?_ _ _ _ _ Tryz.underlying24 infoCue rfl (by omega) (fun _ => ⟨rfl, by simp [cC, Value.oneCell']⟩) v1 (l.take q) rfl (hA1.own.alloc _) x _ _ rfl (cellsB ?_) ?_ ?_ ?_; (· (try simp); (try omega)); (· simp); (· (try simp); (try omega)); (· (try simp); (try omega)); intro v2 k2 hA2; have hk2 : k.v.heap.size ≤ k2.v.heap.size := Nat.le_trans hk1 (Nat.le_trans (by simp) k2.h.size); have kB2 : Below k.v.heap.size k.v k2.v := (kB1.alloc hk1 _).trans k2.h; haveI r3 : Rd 6 cC k2.v (some ⟨b, o + q * 6, none⟩) (l.drop q) := Rd.ex (h := (inferInstanceAs (Rd 6 cC k.v (some ⟨b, o + q * 6, none⟩) (l.drop q)))) (Ex.of kB2))) | (at_builtin; go_loud (refine wpList_appM cC _ rfl _ _ _ rfl k.v.heap.size ?_ _ _ _ _ Tryz.underlying24 infoCue rfl (by omega) (fun _ => ⟨rfl, by simp [cC, Value.oneCell']⟩) v2 (l.take q ++ [x]) rfl hA2.own b o [] 0 rfl ?_ ?_ ?_ ?_; (· exact hk2); (· first | infer_instance | exact ⟨by simp, fun h => absurd h (by simp)⟩); (· (try simp); (try omega)); (· (try simp); (try omega)); intro v3 k3 hA3))); (obtain ⟨A3, c3, he, hO3, hF3⟩ := Ow.of_row (f := cC) (fun _ => rfl) hA3.own; subst he; have hcp3 := (own_cap hA3.own).1; go_ret; obtain ⟨g, rfl, hg⟩ := hO3.own (by simp; (try omega)); have hput : putL l x = l.take q ++ [x] ++ [] := (by unfold putL; rw [HP.out, HN.out]); rw [hput]; have hle1 := hF3 g 0 none rfl; have hle2 := (inferInstance : LeB w.heap.size k.v.heap.size).h; have hex := ex_and (fun W => Wr 6 cC W g (l.take q ++ [x] ++ []) ∧ LeB w.heap.size g ∧ (l.take q ++ [x] ++ []).length ≤ c3) (w0 := w) (W := k3.v) (by (refine Ok.toEx ?_; (repeat (first | (with_reducible exact Ok.rf _) | (with_reducible refine Ok.alloc ?_ _) | (with_reducible refine Ok.ex ?_ _) | (with_reducible refine Ok.drew ?_) | (with_reducible refine Ok.setCellI ?_ _ _ _) | (with_reducible refine Ok.exb ?_ _))))) ⟨hg, ⟨(by omega)⟩, hcp3⟩; first | (refine ⟨g, ⟨c3, ?_⟩, hex⟩; (rfl; done)) | (refine ⟨g, c3, ?_, hex⟩; (rfl; done))))); (· go_wp2_with (first | (go_at_call 73; (with_reducible refine (before_any x (cuG l p) _ 0 b _ _ ?_ ?_ (HB.out)).mono ?_); (· exact ⟨by simp [go_sem], by simp [go_sem], by simp [go_sem], by simp [go_sem], by simp [go_sem], by simp [go_sem]⟩); (· exact CuAt.up hAt); rintro e w' ⟨rfl, k, rfl⟩) | (at_builtin; refine wpList_appM cC _ rfl _ _ _ rfl k.v.heap.size ?_ _ _ _ _ Tryz.underlying24 infoCue rfl (by omega) (fun _ => ⟨rfl, by simp [cC, Value.oneCell']⟩) _ [] rfl (row_made k.v k.v.heap.size (Nat.le_refl _) 28 6 cC) b o (l.take q) _ (by rw [hti]; rfl) ?_ ?_ ?_ ?_; (· simp); (· infer_instance); (· (try simp); (try omega)); (· (try simp); (try omega)); intro v1 k1 hA1; have hk1 : k.v.heap.size ≤ k1.v.heap.size := Nat.le_trans (by simp) k1.h.size; have kB1 : Below k.v.heap.size k.v k1.v := ((Below.refl _ _).alloc (Nat.le_refl _) _).trans k1.h) | (at_builtin; go_loud (refine wpList_appZ cC _ rfl _ _ _ rfl k.v.heap.size ?_ _ _ _ _ Tryz.underlying24 infoCue rfl (by omega) (fun _ => ⟨rfl, by simp [cC, Value.oneCell']⟩) v1 (l.take q) rfl (hA1.own.alloc _) x _ _ rfl (cellsB ?_) ?_ ?_ ?_; (· (try simp); (try omega)); (· simp); (· (try simp); (try omega)); (· (try simp); (try omega)); intro v2 k2 hA2; have hk2 : k.v.heap.size ≤ k2.v.heap.size := Nat.le_trans hk1 (Nat.le_trans (by simp) k2.h.size); have kB2 : Below k.v.heap.size k.v k2.v := (kB1.alloc hk1 _).trans k2.h; haveI r3 : Rd 6 cC k2.v (some ⟨b, o + q * 6, none⟩) (l.drop q) := Rd.ex (h := (inferInstanceAs (Rd 6 cC k.v (some ⟨b, o + q * 6, none⟩) (l.drop q)))) (Ex.of kB2))) | (at_builtin; go_loud (refine wpList_appM cC _ rfl _ _ _ rfl k.v.heap.size ?_ _ _ _ _ Tryz.underlying24 infoCue rfl (by omega) (fun _ => ⟨rfl, by simp [cC, Value.oneCell']⟩) v2 (l.take q ++ [x]) rfl hA2.own b (o + q * 6) (l.drop q) (c - q) (by rw [htd]; rfl) ?_ ?_ ?_ ?_; (· exact hk2); (· first | infer_instance | exact ⟨by simp, fun h => absurd h (by simp)⟩); (· (try simp); (try omega)); (· (try simp); (try omega)); intro v3 k3 hA3))); (obtain ⟨A3, c3, he, hO3, hF3⟩ := Ow.of_row (f := cC) (fun _ => rfl) hA3.own; subst he; have hcp3 := (own_cap hA3.own).1; go_ret; obtain ⟨g, rfl, hg⟩ := hO3.own (by simp; (try omega)); have hput : putL l x = l.take q ++ [x] ++ l.drop q := (by unfold putL; rw [HP.out]); rw [hput]; have hle1 := hF3 g 0 none rfl; have hle2 := (inferInstance : LeB w.heap.size k.v.heap.size).h; have hex := ex_and (fun W => Wr 6 cC W g (l.take q ++ [x] ++ l.drop q) ∧ LeB w.heap.size g ∧ (l.take q ++ [x] ++ l.drop q).length ≤ c3) (w0 := w) (W := k3.v) (by (refine Ok.toEx ?_; (repeat (first | (with_reducible exact Ok.rf _) | (with_reducible refine Ok.alloc ?_ _) | (with_reducible refine Ok.ex ?_ _) | (with_reducible refine Ok.drew ?_) | (with_reducible refine Ok.setCellI ?_ _ _ _) | (with_reducible refine Ok.exb ?_ _))))) ⟨hg, ⟨(by omega)⟩, hcp3⟩; first | (refine ⟨g, ⟨c3, ?_⟩, hex⟩; (rfl; done)) | (refine ⟨g, c3, ?_, hex⟩; (rfl; done)))))
      · have HB := hid hb
        have HPS : Hid (putS l x p = putS l x l.length) := hid (by rw [← hp, hpq]; show _ = if _ then _ else _; rw [if_pos hb])
        have hle : p ≤ l.length := by omega
        clear hp hb hpq hq0
        go_wp2_with ((go_at_call 73; (with_reducible refine (before_any x (cuG l p) _ 0 b _ _ ?_ ?_ (HB.out)).mono ?_); (· exact ⟨by simp [go_sem], by simp [go_sem], by simp [go_sem], by simp [go_sem], by simp [go_sem], by simp [go_sem]⟩); (· exact CuAt.up hAt); rintro e w' ⟨rfl, k, rfl⟩))
        go_roundw
        case rel => exact ⟨p, hle, by go_num, HPS.out, j0.tr k, rfl⟩
        case measure => simp [intOf]; omega
theorem putL_nil (x : Cu) : putL [] x = [x] := rfl
theorem put_nil (A : Option Addr) (c : Nat) (x : Cu) (w : World) [hp : PlA A c] :
    Calls Tryz.prog 51 #[.slice A 0 c, .agg #[.string x.id, .int .i64 x.t, .int .i64 x.ln, .string x.tg, .int .i64 x.act, .int .i64 x.v]] w fun e w' => ∃ g c', e = .returned (.slice (some ⟨g, 0, none⟩) 1 c') ∧ ∃ k : Ex w, w' = k.v ∧ Wr 6 cC k.v g [x] ∧ LeB w.heap.size g ∧ 1 ≤ c' := by
  rcases hp.h with ⟨rfl, rfl⟩ | ⟨b, o, rfl⟩
  · (go_enter Tryz.func51, Tryz.ntmps51; go_wp2; go_loopw [5] (fun t wr => t = .int .i64 0 ∧ ∃ j : Ex (w.alloc (.cells #[.string x.id, .int .i64 x.t, .int .i64 x.ln, .string x.tg, .int .i64 x.act, .int .i64 x.v] 28)), wr = j.v) (fun t _ => (intOf t).toNat); (case atStart => exact ⟨rfl, Ex.rf _, rfl⟩); (case round => (obtain ⟨rfl, j0, rfl⟩ := hrel; go_wp2_with (first | (at_builtin; go_loud (refine wpList_appN cC _ rfl _ _ _ rfl j0.v.heap.size ?_ _ _ _ _ Tryz.underlying24 infoCue rfl (by omega) (fun _ => ⟨rfl, by simp [cC, Value.oneCell']⟩) _ [] rfl (row_made j0.v j0.v.heap.size (Nat.le_refl _) 28 6 cC) none [] 0 rfl ?_ (fun _ => rfl) ?_ ?_ ?_; (· simp); (· exact ⟨by simp, fun h => absurd h (by simp)⟩); (· simp); (· simp); intro v1 k1 hA1; have hk1 : j0.v.heap.size ≤ k1.v.heap.size := Nat.le_trans (by simp) k1.h.size)) | (at_builtin; go_loud (refine wpList_appZ cC _ rfl _ _ _ rfl j0.v.heap.size ?_ _ _ _ _ Tryz.underlying24 infoCue rfl (by omega) (fun _ => ⟨rfl, by simp [cC, Value.oneCell']⟩) v1 [] rfl (hA1.alloc _) x _ _ rfl (cellsB ?_) ?_ ?_ ?_; (· (try simp); (try omega)); (· simp); (· simp); (· simp); intro v2 k2 hA2; have hk2 : j0.v.heap.size ≤ k2.v.heap.size := Nat.le_trans hk1 (Nat.le_trans (by simp) k2.h.size))) | (at_builtin; go_loud (refine wpList_appN cC _ rfl _ _ _ rfl j0.v.heap.size ?_ _ _ _ _ Tryz.underlying24 infoCue rfl (by omega) (fun _ => ⟨rfl, by simp [cC, Value.oneCell']⟩) v2 [x] rfl hA2.own none [] 0 rfl ?_ (fun _ => rfl) ?_ ?_ ?_; (· exact hk2); (· exact ⟨by simp, fun h => absurd h (by simp)⟩); (· simp); (· simp); intro v3 k3 hA3))); (obtain ⟨A3, c3, he, hO3, hF3⟩ := Ow.of_row (f := cC) (fun _ => rfl) hA3; subst he; have hcp3 := (own_cap hA3).1; go_ret; obtain ⟨g, rfl, hg⟩ := hO3.own (by simp); have hle1 := hF3 g 0 none rfl; have hle2 := (inferInstance : LeB w.heap.size j0.v.heap.size).h; have hex := ex_and (fun W => Wr 6 cC W g [x] ∧ LeB w.heap.size g ∧ 1 ≤ c3) (w0 := w) (W := k3.v) (by (refine Ok.toEx ?_; (repeat (first | (with_reducible exact Ok.rf _) | (with_reducible refine Ok.alloc ?_ _) | (with_reducible refine Ok.ex ?_ _) | (with_reducible refine Ok.drew ?_) | (with_reducible refine Ok.setCellI ?_ _ _ _) | (with_reducible refine Ok.exb ?_ _))))) ⟨hg, ⟨(by omega)⟩, hcp3⟩; first | (refine ⟨g, ⟨c3, ?_⟩, hex⟩; (rfl; done)) | (refine ⟨g, c3, ?_, hex⟩; (rfl; done))))))
  · by_cases hc0 : c = 0
    · subst hc0
      (go_enter Tryz.func51, Tryz.ntmps51; go_wp2; go_loopw [5] (fun t wr => t = .int .i64 0 ∧ ∃ j : Ex (w.alloc (.cells #[.string x.id, .int .i64 x.t, .int .i64 x.ln, .string x.tg, .int .i64 x.act, .int .i64 x.v] 28)), wr = j.v) (fun t _ => (intOf t).toNat); (case atStart => exact ⟨rfl, Ex.rf _, rfl⟩); (case round => (obtain ⟨rfl, j0, rfl⟩ := hrel; go_wp2_with (first | (at_builtin; go_loud (refine wpList_appN cC _ rfl _ _ _ rfl j0.v.heap.size ?_ _ _ _ _ Tryz.underlying24 infoCue rfl (by omega) (fun _ => ⟨rfl, by simp [cC, Value.oneCell']⟩) _ [] rfl (row_made j0.v j0.v.heap.size (Nat.le_refl _) 28 6 cC) (some ⟨b, o, none⟩) [] 0 rfl ?_ (fun h => by cases h) ?_ ?_ ?_; (· simp); (· exact ⟨by simp, fun h => absurd h (by simp)⟩); (· simp); (· simp); intro v1 k1 hA1; have hk1 : j0.v.heap.size ≤ k1.v.heap.size := Nat.le_trans (by simp) k1.h.size)) | (at_builtin; go_loud (refine wpList_appZ cC _ rfl _ _ _ rfl j0.v.heap.size ?_ _ _ _ _ Tryz.underlying24 infoCue rfl (by omega) (fun _ => ⟨rfl, by simp [cC, Value.oneCell']⟩) v1 [] rfl (hA1.alloc _) x _ _ rfl (cellsB ?_) ?_ ?_ ?_; (· (try simp); (try omega)); (· simp); (· simp); (· simp); intro v2 k2 hA2; have hk2 : j0.v.heap.size ≤ k2.v.heap.size := Nat.le_trans hk1 (Nat.le_trans (by simp) k2.h.size))) | (at_builtin; go_loud (refine wpList_appN cC _ rfl _ _ _ rfl j0.v.heap.size ?_ _ _ _ _ Tryz.underlying24 infoCue rfl (by omega) (fun _ => ⟨rfl, by simp [cC, Value.oneCell']⟩) v2 [x] rfl hA2.own (some ⟨b, o, none⟩) [] 0 rfl ?_ (fun h => by cases h) ?_ ?_ ?_; (· exact hk2); (· exact ⟨by simp, fun h => absurd h (by simp)⟩); (· simp); (· simp); intro v3 k3 hA3))); (obtain ⟨A3, c3, he, hO3, hF3⟩ := Ow.of_row (f := cC) (fun _ => rfl) hA3; subst he; have hcp3 := (own_cap hA3).1; go_ret; obtain ⟨g, rfl, hg⟩ := hO3.own (by simp); have hle1 := hF3 g 0 none rfl; have hle2 := (inferInstance : LeB w.heap.size j0.v.heap.size).h; have hex := ex_and (fun W => Wr 6 cC W g [x] ∧ LeB w.heap.size g ∧ 1 ≤ c3) (w0 := w) (W := k3.v) (by (refine Ok.toEx ?_; (repeat (first | (with_reducible exact Ok.rf _) | (with_reducible refine Ok.alloc ?_ _) | (with_reducible refine Ok.ex ?_ _) | (with_reducible refine Ok.drew ?_) | (with_reducible refine Ok.setCellI ?_ _ _ _) | (with_reducible refine Ok.exb ?_ _))))) ⟨hg, ⟨(by omega)⟩, hcp3⟩; first | (refine ⟨g, ⟨c3, ?_⟩, hex⟩; (rfl; done)) | (refine ⟨g, c3, ?_, hex⟩; (rfl; done))))))
    · have hc1 : 0 < c := by omega
      (go_enter Tryz.func51, Tryz.ntmps51; go_wp2; go_loopw [5] (fun t wr => t = .int .i64 0 ∧ ∃ j : Ex (w.alloc (.cells #[.string x.id, .int .i64 x.t, .int .i64 x.ln, .string x.tg, .int .i64 x.act, .int .i64 x.v] 28)), wr = j.v) (fun t _ => (intOf t).toNat); (case atStart => exact ⟨rfl, Ex.rf _, rfl⟩); (case round => (obtain ⟨rfl, j0, rfl⟩ := hrel; go_wp2_with (first | (at_builtin; go_loud (refine wpList_appN cC _ rfl _ _ _ rfl j0.v.heap.size ?_ _ _ _ _ Tryz.underlying24 infoCue rfl (by omega) (fun _ => ⟨rfl, by simp [cC, Value.oneCell']⟩) _ [] rfl (row_made j0.v j0.v.heap.size (Nat.le_refl _) 28 6 cC) (some ⟨b, o, none⟩) [] c rfl ?_ (fun h => by cases h) ?_ ?_ ?_; (· simp); (· exact ⟨by simp, fun h => absurd h (by simp)⟩); (· simp); (· simp); intro v1 k1 hA1; have hk1 : j0.v.heap.size ≤ k1.v.heap.size := Nat.le_trans (by simp) k1.h.size)) | (at_builtin; go_loud (refine wpList_appZ cC _ rfl _ _ _ rfl j0.v.heap.size ?_ _ _ _ _ Tryz.underlying24 infoCue rfl (by omega) (fun _ => ⟨rfl, by simp [cC, Value.oneCell']⟩) v1 [] rfl (hA1.alloc _) x _ _ rfl (cellsB ?_) ?_ ?_ ?_; (· (try simp); (try omega)); (· simp); (· simp); (· simp); intro v2 k2 hA2; have hk2 : j0.v.heap.size ≤ k2.v.heap.size := Nat.le_trans hk1 (Nat.le_trans (by simp) k2.h.size))) | (at_builtin; go_loud (refine wpList_appN cC _ rfl _ _ _ rfl j0.v.heap.size ?_ _ _ _ _ Tryz.underlying24 infoCue rfl (by omega) (fun _ => ⟨rfl, by simp [cC, Value.oneCell']⟩) v2 [x] rfl hA2.own (some ⟨b, o, none⟩) [] c rfl ?_ (fun h => by cases h) ?_ ?_ ?_; (· exact hk2); (· exact ⟨by simp, fun h => absurd h (by simp)⟩); (· simp); (· simp); intro v3 k3 hA3))); (obtain ⟨A3, c3, he, hO3, hF3⟩ := Ow.of_row (f := cC) (fun _ => rfl) hA3; subst he; have hcp3 := (own_cap hA3).1; go_ret; obtain ⟨g, rfl, hg⟩ := hO3.own (by simp); have hle1 := hF3 g 0 none rfl; have hle2 := (inferInstance : LeB w.heap.size j0.v.heap.size).h; have hex := ex_and (fun W => Wr 6 cC W g [x] ∧ LeB w.heap.size g ∧ 1 ≤ c3) (w0 := w) (W := k3.v) (by (refine Ok.toEx ?_; (repeat (first | (with_reducible exact Ok.rf _) | (with_reducible refine Ok.alloc ?_ _) | (with_reducible refine Ok.ex ?_ _) | (with_reducible refine Ok.drew ?_) | (with_reducible refine Ok.setCellI ?_ _ _ _) | (with_reducible refine Ok.exb ?_ _))))) ⟨hg, ⟨(by omega)⟩, hcp3⟩; first | (refine ⟨g, ⟨c3, ?_⟩, hex⟩; (rfl; done)) | (refine ⟨g, c3, ?_, hex⟩; (rfl; done))))))
theorem putC_any (A : Option Addr) (c : Nat) (l : List Cu) (x : Cu) (w : World) [hl : Rd 6 cC w A l] [hp : PlA A c] (hn : l.length ≤ 1048576) (hc : l.length ≤ c) :
    Calls Tryz.prog 51 #[.slice A l.length c, .agg #[.string x.id, .int .i64 x.t, .int .i64 x.ln, .string x.tg, .int .i64 x.act, .int .i64 x.v]] w fun e w' => ∃ g c', e = .returned (.slice (some ⟨g, 0, none⟩) (putL l x).length c') ∧ ∃ k : Ex w, w' = k.v ∧ Wr 6 cC k.v g (putL l x) ∧ LeB w.heap.size g ∧ (putL l x).length ≤ c' := by
  cases l with
  | nil => exact put_nil A c x w
  | cons y l => exact put_any A c (y :: l) x w (by simp) hn hc
end
end Go.Proofs.YtdhflckombkimaaGreatDoor
namespace Go.Proofs.YtdhflckombkimaaGreatDoor
open Go.RowKit
noncomputable def adV (l : List Cu) (x : Cu) : List Cu := if vCs l = true ∧ vC x = true then (if cIx l x.id < l.length then [] else if l.length = 32 then [] else putL l x) else []
noncomputable def adE (l : List Cu) (x : Cu) : Int := if vCs l = true ∧ vC x = true then (if cIx l x.id < l.length then 4 else if l.length = 32 then 5 else 0) else 1
theorem ad_inv {l : List Cu} {x : Cu} (h : vCs l = false ∨ vC x = false) : adV l x = [] ∧ adE l x = 1 := by
  unfold adV adE
  have hn : ¬ (vCs l = true ∧ vC x = true) := by rintro ⟨h1, h2⟩; rcases h with h | h <;> simp_all
  rw [if_neg hn, if_neg hn]; exact ⟨rfl, rfl⟩
theorem ad_hit {l : List Cu} {x : Cu} {q : Nat} (h1 : vCs l = true) (h2 : vC x = true) (hq : q < l.length) (he : ((cuG l q).id.toList == x.id.toList) = true) (hb : ∀ j, j < q → ((cuG l j).id.toList == x.id.toList) = false) : adV l x = [] ∧ adE l x = 4 := by
  have hh : vCs l = true ∧ vC x = true := ⟨h1, h2⟩
  unfold adV adE; rw [if_pos hh, if_pos hh, cIx_hit hq he hb, if_pos hq, if_pos hq]; exact ⟨rfl, rfl⟩
theorem ad_full {l : List Cu} {x : Cu} (h1 : vCs l = true) (h2 : vC x = true) (hb : ∀ j, j < l.length → ((cuG l j).id.toList == x.id.toList) = false) (hf : l.length = 32) : adV l x = [] ∧ adE l x = 5 := by
  have hh : vCs l = true ∧ vC x = true := ⟨h1, h2⟩
  unfold adV adE; rw [if_pos hh, if_pos hh, cIx_miss hb, if_neg (Nat.lt_irrefl l.length), if_neg (Nat.lt_irrefl l.length), if_pos hf, if_pos hf]; exact ⟨rfl, rfl⟩
theorem ad_go {l : List Cu} {x : Cu} (h1 : vCs l = true) (h2 : vC x = true) (hb : ∀ j, j < l.length → ((cuG l j).id.toList == x.id.toList) = false) (hf : ¬ l.length = 32) : adV l x = putL l x ∧ adE l x = 0 := by
  have hh : vCs l = true ∧ vC x = true := ⟨h1, h2⟩
  unfold adV adE; rw [if_pos hh, if_pos hh, cIx_miss hb, if_neg (Nat.lt_irrefl l.length), if_neg (Nat.lt_irrefl l.length), if_neg hf, if_neg hf]; exact ⟨rfl, rfl⟩
section
set_option maxHeartbeats 3200000
set_option maxRecDepth 20000
theorem sAddCue_any (A : Option Addr) (c : Nat) (l : List Cu) (x : Cu) (w : World) [hk : COks l] [hl : Rd 6 cC w A l] [hp : PlA A c] (hcap : l.length ≤ c) (hn : l.length ≤ 1048576) (hs1 : x.id.size ≤ maxLen) (hs2 : x.tg.size ≤ maxLen) {rv : List Cu} {re : Int} (hrv : adV l x = rv) (hre : adE l x = re) :
    Calls Tryz.prog 35 #[.slice A l.length c, .agg #[.string x.id, .int .i64 x.t, .int .i64 x.ln, .string x.tg, .int .i64 x.act, .int .i64 x.v]] w fun e w' => ∃ A' c', e = .returned (.tuple #[.slice A' rv.length c', .int .i64 re]) ∧ ∃ k : Ex w, w' = k.v ∧ Ow 6 cC k.v A' rv ∧ Fr w A' ∧ rv.length ≤ c' := by
  subst hrv; subst hre
  have hlen := hl.len
  cases hv : vCs l
  · have HR := hid (ad_inv (x := x) (.inl hv))
    have HV := hid hv
    clear hv
    go_enter Tryz.func35, Tryz.ntmps35
    go_wp2_with ((go_at_call 48; (with_reducible refine (sCs_any _ _ l _ ?_ (HV.out)).mono ?_); (· omega); rintro e w' ⟨rfl, k, rfl⟩))
    go_ret2
    rw [HR.out.1, HR.out.2]
    exact ⟨none, 0, by rfl, ex_and (fun W => Ow 6 cC W none ([] : List Cu) ∧ Fr w none ∧ ([] : List Cu).length ≤ 0) (by (refine Ok.toEx ?_; (repeat (first | (with_reducible exact Ok.rf _) | (with_reducible refine Ok.alloc ?_ _) | (with_reducible refine Ok.ex ?_ _) | (with_reducible refine Ok.drew ?_) | (with_reducible refine Ok.setCellI ?_ _ _ _) | (with_reducible refine Ok.exb ?_ _))))) ⟨Ow.nil, inferInstance, Nat.le_refl _⟩⟩
  · have HV := hid hv
    cases hx : vC x
    · have HR := hid (ad_inv (l := l) (.inr hx))
      have HX := hid hx
      clear hv hx
      go_enter Tryz.func35, Tryz.ntmps35
      go_wp2_with (first | (go_at_call 48; (with_reducible refine (sCs_any _ _ l _ ?_ (HV.out)).mono ?_); (· omega); rintro e w' ⟨rfl, k, rfl⟩) | (go_at_call 49; (with_reducible refine (sOne_any x _ 0 _ ?_ hs1 hs2 (HX.out)).mono ?_); (· exact ⟨by simp [go_sem], by simp [go_sem], by simp [go_sem], by simp [go_sem], by simp [go_sem], by simp [go_sem]⟩); rintro e w' ⟨rfl, k2, rfl⟩))
      go_ret2
      rw [HR.out.1, HR.out.2]
      exact ⟨none, 0, by rfl, ex_and (fun W => Ow 6 cC W none ([] : List Cu) ∧ Fr w none ∧ ([] : List Cu).length ≤ 0) (by (refine Ok.toEx ?_; (repeat (first | (with_reducible exact Ok.rf _) | (with_reducible refine Ok.alloc ?_ _) | (with_reducible refine Ok.ex ?_ _) | (with_reducible refine Ok.drew ?_) | (with_reducible refine Ok.setCellI ?_ _ _ _) | (with_reducible refine Ok.exb ?_ _))))) ⟨Ow.nil, inferInstance, Nat.le_refl _⟩⟩
    · have HX := hid hx
      rcases cI_part l x.id with ⟨q, hq, he, hb⟩ | hb
      · have HM := hid (cII_hit hq he hb)
        have HR := hid (ad_hit hv hx hq he hb)
        clear hv hx he hb
        go_enter Tryz.func35, Tryz.ntmps35
        go_wp2_with (first | (go_at_call 48; (with_reducible refine (sCs_any _ _ l _ ?_ (HV.out)).mono ?_); (· omega); rintro e w' ⟨rfl, k, rfl⟩) | (go_at_call 49; (with_reducible refine (sOne_any x _ 0 _ ?_ hs1 hs2 (HX.out)).mono ?_); (· exact ⟨by simp [go_sem], by simp [go_sem], by simp [go_sem], by simp [go_sem], by simp [go_sem], by simp [go_sem]⟩); rintro e w' ⟨rfl, k2, rfl⟩) | (go_at_call 50; go_loud ((with_reducible refine (find_any _ _ l _ _ (HM.out)).mono ?_); rintro e w' ⟨rfl, rfl⟩)))
        go_ret2
        rw [HR.out.1, HR.out.2]
        exact ⟨none, 0, by rfl, ex_and (fun W => Ow 6 cC W none ([] : List Cu) ∧ Fr w none ∧ ([] : List Cu).length ≤ 0) (by (refine Ok.toEx ?_; (repeat (first | (with_reducible exact Ok.rf _) | (with_reducible refine Ok.alloc ?_ _) | (with_reducible refine Ok.ex ?_ _) | (with_reducible refine Ok.drew ?_) | (with_reducible refine Ok.setCellI ?_ _ _ _) | (with_reducible refine Ok.exb ?_ _))))) ⟨Ow.nil, inferInstance, Nat.le_refl _⟩⟩
      · have HM := hid (cII_miss hb)
        by_cases hf : l.length = 32
        · have HR := hid (ad_full hv hx hb hf)
          have hfi : ((l.length : Int) == 32) = true := by rw [hf]; rfl
          clear hv hx hb hf
          go_enter Tryz.func35, Tryz.ntmps35
          go_wp2_with (first | (go_at_call 48; (with_reducible refine (sCs_any _ _ l _ ?_ (HV.out)).mono ?_); (· omega); rintro e w' ⟨rfl, k, rfl⟩) | (go_at_call 49; (with_reducible refine (sOne_any x _ 0 _ ?_ hs1 hs2 (HX.out)).mono ?_); (· exact ⟨by simp [go_sem], by simp [go_sem], by simp [go_sem], by simp [go_sem], by simp [go_sem], by simp [go_sem]⟩); rintro e w' ⟨rfl, k2, rfl⟩) | (go_at_call 50; go_loud ((with_reducible refine (find_any _ _ l _ _ (HM.out)).mono ?_); rintro e w' ⟨rfl, rfl⟩)))
          go_ret2
          rw [HR.out.1, HR.out.2]
          exact ⟨none, 0, by rfl, ex_and (fun W => Ow 6 cC W none ([] : List Cu) ∧ Fr w none ∧ ([] : List Cu).length ≤ 0) (by (refine Ok.toEx ?_; (repeat (first | (with_reducible exact Ok.rf _) | (with_reducible refine Ok.alloc ?_ _) | (with_reducible refine Ok.ex ?_ _) | (with_reducible refine Ok.drew ?_) | (with_reducible refine Ok.setCellI ?_ _ _ _) | (with_reducible refine Ok.exb ?_ _))))) ⟨Ow.nil, inferInstance, Nat.le_refl _⟩⟩
        · have HR := hid (ad_go hv hx hb hf)
          have hfi : ((l.length : Int) == 32) = false := by have : ¬ (l.length : Int) = 32 := by omega
                                                            simpa using this
          clear hv hx hb hf
          go_enter Tryz.func35, Tryz.ntmps35
          go_wp2_with (first | (go_at_call 48; (with_reducible refine (sCs_any _ _ l _ ?_ (HV.out)).mono ?_); (· omega); rintro e w' ⟨rfl, k, rfl⟩) | (go_at_call 49; (with_reducible refine (sOne_any x _ 0 _ ?_ hs1 hs2 (HX.out)).mono ?_); (· exact ⟨by simp [go_sem], by simp [go_sem], by simp [go_sem], by simp [go_sem], by simp [go_sem], by simp [go_sem]⟩); rintro e w' ⟨rfl, k2, rfl⟩) | (go_at_call 50; go_loud ((with_reducible refine (find_any _ _ l _ _ (HM.out)).mono ?_); rintro e w' ⟨rfl, rfl⟩)) | (go_at_call 51; (with_reducible refine (putC_any _ _ l x _ ?_ ?_).mono ?_); (· exact hn); (· exact hcap); rintro e w' ⟨g, c9, rfl, k9, rfl, hw9, hg9, hc9⟩))
          go_ret2
          rw [HR.out.1, HR.out.2]
          exact ⟨some ⟨g, 0, none⟩, c9, by rfl, ex_and (fun W => Ow 6 cC W (some ⟨g, 0, none⟩) (putL l x) ∧ Fr w (some ⟨g, 0, none⟩) ∧ (putL l x).length ≤ c9) (by (refine Ok.toEx ?_; (repeat (first | (with_reducible exact Ok.rf _) | (with_reducible refine Ok.alloc ?_ _) | (with_reducible refine Ok.ex ?_ _) | (with_reducible refine Ok.drew ?_) | (with_reducible refine Ok.setCellI ?_ _ _ _) | (with_reducible refine Ok.exb ?_ _))))) ⟨inferInstance, ⟨fun b o m h => by cases h; exact Nat.le_trans (by have := (inferInstance : LeB w.heap.size k2.v.heap.size).h; exact this) hg9.h⟩, hc9⟩⟩
end
end Go.Proofs.YtdhflckombkimaaGreatDoor
