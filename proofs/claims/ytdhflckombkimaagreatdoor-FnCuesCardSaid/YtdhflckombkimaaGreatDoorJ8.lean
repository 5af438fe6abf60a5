/-
  Slices of numbers: the laws' helpers. Conditions: those typed at each theorem.
  Cues: what it means that a slice holds them; the laws' helpers: size, copy, comparison. Conditions: those typed at each theorem.
  One cue: whether it is valid. Conditions: those typed at each theorem.
  Slices of slices of numbers: the laws' helpers. Conditions: those typed at each theorem.
-/
import Derived.Test.YtdhflckombkimaaGreatDoorJ2
import Derived.Test.YtdhflckombkimaaGreatDoorJ6
namespace Go.Proofs.YtdhflckombkimaaGreatDoor
open Go.RowKit
/-- the cells of a number -/
def iC (n : Int) : List Value := [.int .i64 n]
theorem Filling.step1 {α : Type} {e : TypeId} {f : α → List Value} {w : World} {b : Nat} {l : List α} {q : Nat} (h : Filling e 1 f w b l q) (hq : q < l.length) {v : Value} (hl : f l[q] = [v]) : Filling e 1 f (w.setCell ⟨b, q, none⟩ v) b l (q + 1) := by
  have := h.step hq (by rw [hl]; rfl)
  rw [hl, Nat.mul_one] at this
  exact this
theorem But.rf (A : Option Addr) (w : World) : But A w w := ⟨Nat.le_refl _, fun _ _ _ => rfl⟩
theorem But.set {w w' : World} {b o : Nat} (h : But (some ⟨b, o, none⟩) w w') (p : Nat) (v : Value) : But (some ⟨b, o, none⟩) w (w'.setCell ⟨b, p, none⟩ v) :=
  ⟨by rw [size_setCell']; exact h.size, fun x hx hne => by
    rw [World.setCell, Array.getElem?_modify, if_neg (fun e => hne o (by rw [show b = x from e]))]
    exact h.block x hx hne⟩
theorem But.ex {A : Option Addr} {w w' : World} (h : But A w w') (k : Ex w') : But A w k.v :=
  ⟨Nat.le_trans h.size k.size, fun x hx hne => (k.block (Nat.lt_of_lt_of_le hx h.size)).trans (h.block x hx hne)⟩
/-- the numbers that marking lays -/
def iMk (n : Nat) (k : Int) : List Int := (List.range n).map fun (i : Nat) => k + (i : Int)
theorem iMk_len (n : Nat) (k : Int) : (iMk n k).length = n := by simp [iMk]
theorem iMk_get {n : Nat} {k : Int} {i : Nat} (h : i < (iMk n k).length) : (iMk n k)[i] = k + i := by simp [iMk]
theorem Rd.i {w : World} {A : Option Addr} {l : List Int} (h : Rd 1 iC w A l) : 0 < l.length → ∃ b o, A = some ⟨b, o, none⟩ ∧ LtW b w ∧ ∀ (k : Nat) (h : k < l.length), w.cell? ⟨b, o + k, none⟩ = some (.int .i64 l[k]) := fun h0 => by
  obtain ⟨b, o, e, hb, hc⟩ := h.at_ h0
  exact ⟨b, o, e, hb, fun k hk => by have := hc k hk 0 _ rfl; rwa [Nat.mul_one] at this⟩
section
set_option maxHeartbeats 1600000
theorem infoI64 : (Tryz.prog.info? 2).map (fun i => (i.zero, i.size, i.bytes)) = some (some (.int .i64 0), 1, 8) := by kernel_rfl
end
end Go.Proofs.YtdhflckombkimaaGreatDoor
namespace Go.Proofs.YtdhflckombkimaaGreatDoor
open Go.RowKit
structure Cu where
  id : ByteArray
  t : Int
  ln : Int
  tg : ByteArray
  act : Int
  v : Int
instance : Inhabited Cu := ⟨⟨⟨#[]⟩, 0, 0, ⟨#[]⟩, 0, 0⟩⟩
def bI (n : Int) : Prop := -9223372036854775808 ≤ n ∧ n ≤ 9223372036854775807
def Cu.ok (x : Cu) : Prop := x.id.size ≤ 9223372036854775807 ∧ x.tg.size ≤ 9223372036854775807 ∧ bI x.t ∧ bI x.ln ∧ bI x.act ∧ bI x.v
/-- the cells of a cue -/
def cC (x : Cu) : List Value := [.string x.id, .int .i64 x.t, .int .i64 x.ln, .string x.tg, .int .i64 x.act, .int .i64 x.v]
/-- the cells of cue x lie at offset p of block b -/
structure CuAt (w : World) (b p : Nat) (x : Cu) : Prop where
  c0 : w.cell? ⟨b, p, none⟩ = some (.string x.id)
  c1 : w.cell? ⟨b, p + 1, none⟩ = some (.int .i64 x.t)
  c2 : w.cell? ⟨b, p + 2, none⟩ = some (.int .i64 x.ln)
  c3 : w.cell? ⟨b, p + 3, none⟩ = some (.string x.tg)
  c4 : w.cell? ⟨b, p + 4, none⟩ = some (.int .i64 x.act)
  c5 : w.cell? ⟨b, p + 5, none⟩ = some (.int .i64 x.v)
theorem CuAt.of {w : World} {b p : Nat} {x : Cu} (h : ∀ (j : Nat) (v : Value), (cC x)[j]? = some v → w.cell? ⟨b, p + j, none⟩ = some v) : CuAt w b p x := ⟨h 0 _ rfl, h 1 _ rfl, h 2 _ rfl, h 3 _ rfl, h 4 _ rfl, h 5 _ rfl⟩
/-- each cue is one that memory can hold -/
class COks (l : List Cu) : Prop where h : ∀ x ∈ l, x.ok
/-- each text is short -/
class CSm (l : List Cu) : Prop where h : ∀ x ∈ l, x.id.size ≤ 1048576 ∧ x.tg.size ≤ 1048576
/-- cue k, or none -/
def cuG (l : List Cu) (k : Nat) : Cu := l.getD k default
theorem cuG_at {l : List Cu} {k : Nat} (h : k < l.length) : cuG l k = l[k] := by simp [cuG, List.getD, h]
theorem Rd.cu {w : World} {A : Option Addr} {l : List Cu} (h : Rd 6 cC w A l) : 0 < l.length → ∃ b o, A = some ⟨b, o, none⟩ ∧ LtW b w ∧ ∀ (k : Nat) (_ : k < l.length), CuAt w b (o + k * 6) (cuG l k) := fun h0 => by
  obtain ⟨b, o, e, hb, hc⟩ := h.at_ h0
  exact ⟨b, o, e, hb, fun k hk => by rw [cuG_at hk]; exact CuAt.of (hc k hk)⟩
theorem Filling.stepc {e : TypeId} {w : World} {b : Nat} {l : List Cu} {q : Nat} (h : Filling e 6 cC w b l q) (hq : q < l.length) {x : Cu} (hx : cuG l q = x) : Filling e 6 cC (setCells w b (q * 6) (cC x)) b l (q + 1) := by
  have := h.step hq rfl
  rw [cuG_at hq] at hx
  rwa [hx] at this
section
set_option maxHeartbeats 3200000
set_option maxRecDepth 20000
theorem infoCue : (Tryz.prog.info? 28).map (fun i => (i.zero, i.size, i.bytes)) = some (some (.agg #[.string ⟨#[]⟩, .int .i64 0, .int .i64 0, .string ⟨#[]⟩, .int .i64 0, .int .i64 0]), 6, 64) := by kernel_rfl
end
end Go.Proofs.YtdhflckombkimaaGreatDoor
namespace Go.Proofs.YtdhflckombkimaaGreatDoor
open Go.RowKit
/-- what a valid cue is -/
def okC (x : Cu) : Prop := okN x.id ∧ okN x.tg ∧ (0 ≤ x.t ∧ x.t ≤ 7200000) ∧ (0 ≤ x.v ∧ x.v ≤ 1000) ∧ ((x.act = 1 ∧ x.ln = 0) ∨ (x.act = 2 ∧ 1 ≤ x.ln ∧ x.ln ≤ 7200000 - x.t) ∨ (x.act = 3 ∧ x.ln = 0 ∧ x.v = 0))
open Classical in
noncomputable def vC (x : Cu) : Bool := decide (okC x)
open Classical in
theorem vC_yes {x : Cu} (h : okC x) : vC x = true := decide_eq_true h
open Classical in
theorem vC_of {x : Cu} (h : vC x = true) : okC x := of_decide_eq_true h
open Classical in
theorem vC_no {x : Cu} (h : ¬ okC x) : vC x = false := decide_eq_false h
theorem ebT {a b : Int} (h : a = b) : (a == b) = true := by rw [beq_iff_eq]; exact h
theorem ebF {a b : Int} (h : a ≠ b) : (a == b) = false := by rw [beq_eq_false_iff_ne]; exact h
/-- the ways through the test of a cue -/
theorem vC_cases (x : Cu) :
    (vC x = true ∧ okN x.id ∧ okN x.tg ∧ (0 ≤ x.t ∧ x.t ≤ 7200000) ∧ (0 ≤ x.v ∧ x.v ≤ 1000) ∧ (x.act == 1) = true ∧ (x.ln == 0) = true) ∨
    (vC x = true ∧ okN x.id ∧ okN x.tg ∧ (0 ≤ x.t ∧ x.t ≤ 7200000) ∧ (0 ≤ x.v ∧ x.v ≤ 1000) ∧ (x.act == 1) = false ∧ (x.act == 2) = true ∧ 1 ≤ x.ln ∧ x.ln ≤ 7200000 - x.t) ∨
    (vC x = true ∧ okN x.id ∧ okN x.tg ∧ (0 ≤ x.t ∧ x.t ≤ 7200000) ∧ (0 ≤ x.v ∧ x.v ≤ 1000) ∧ (x.act == 1) = false ∧ (x.act == 2) = false ∧ (x.act == 3) = true ∧ (x.ln == 0) = true ∧ (x.v == 0) = true) ∨
    (vC x = false ∧ ¬ okN x.id) ∨
    (vC x = false ∧ okN x.id ∧ ¬ okN x.tg) ∨
    (vC x = false ∧ okN x.id ∧ okN x.tg ∧ (x.t < 0 ∨ 7200000 < x.t)) ∨
    (vC x = false ∧ okN x.id ∧ okN x.tg ∧ (0 ≤ x.t ∧ x.t ≤ 7200000) ∧ (x.v < 0 ∨ 1000 < x.v)) ∨
    (vC x = false ∧ okN x.id ∧ okN x.tg ∧ (0 ≤ x.t ∧ x.t ≤ 7200000) ∧ (0 ≤ x.v ∧ x.v ≤ 1000) ∧ (x.act == 1) = true ∧ (x.ln == 0) = false) ∨
    (vC x = false ∧ okN x.id ∧ okN x.tg ∧ (0 ≤ x.t ∧ x.t ≤ 7200000) ∧ (0 ≤ x.v ∧ x.v ≤ 1000) ∧ (x.act == 1) = false ∧ (x.act == 2) = true ∧ (x.ln < 1 ∨ 7200000 - x.t < x.ln)) ∨
    (vC x = false ∧ okN x.id ∧ okN x.tg ∧ (0 ≤ x.t ∧ x.t ≤ 7200000) ∧ (0 ≤ x.v ∧ x.v ≤ 1000) ∧ (x.act == 1) = false ∧ (x.act == 2) = false ∧ (x.act == 3) = true ∧ (x.ln == 0) = false) ∨
    (vC x = false ∧ okN x.id ∧ okN x.tg ∧ (0 ≤ x.t ∧ x.t ≤ 7200000) ∧ (0 ≤ x.v ∧ x.v ≤ 1000) ∧ (x.act == 1) = false ∧ (x.act == 2) = false ∧ (x.act == 3) = true ∧ (x.ln == 0) = true ∧ (x.v == 0) = false) ∨
    (vC x = false ∧ okN x.id ∧ okN x.tg ∧ (0 ≤ x.t ∧ x.t ≤ 7200000) ∧ (0 ≤ x.v ∧ x.v ≤ 1000) ∧ (x.act == 1) = false ∧ (x.act == 2) = false ∧ (x.act == 3) = false) := by
  by_cases h1 : okN x.id
  rotate_left
  · exact .inr (.inr (.inr (.inl ⟨vC_no fun h => h1 h.1, h1⟩)))
  by_cases h2 : okN x.tg
  rotate_left
  · exact .inr (.inr (.inr (.inr (.inl ⟨vC_no fun h => h2 h.2.1, h1, h2⟩))))
  by_cases h3 : 0 ≤ x.t ∧ x.t ≤ 7200000
  rotate_left
  · exact .inr (.inr (.inr (.inr (.inr (.inl ⟨vC_no fun h => h3 h.2.2.1, h1, h2, by omega⟩)))))
  by_cases h4 : 0 ≤ x.v ∧ x.v ≤ 1000
  rotate_left
  · exact .inr (.inr (.inr (.inr (.inr (.inr (.inl ⟨vC_no fun h => h4 h.2.2.2.1, h1, h2, h3, by omega⟩))))))
  by_cases a1 : x.act = 1
  · by_cases l0 : x.ln = 0
    · exact .inl ⟨vC_yes ⟨h1, h2, h3, h4, .inl ⟨a1, l0⟩⟩, h1, h2, h3, h4, ebT a1, ebT l0⟩
    · exact .inr (.inr (.inr (.inr (.inr (.inr (.inr (.inl ⟨vC_no fun h => by have := h.2.2.2.2; omega, h1, h2, h3, h4, ebT a1, ebF l0⟩)))))))
  by_cases a2 : x.act = 2
  · by_cases l0 : 1 ≤ x.ln ∧ x.ln ≤ 7200000 - x.t
    · exact .inr (.inl ⟨vC_yes ⟨h1, h2, h3, h4, .inr (.inl ⟨a2, l0⟩)⟩, h1, h2, h3, h4, ebF a1, ebT a2, l0⟩)
    · exact .inr (.inr (.inr (.inr (.inr (.inr (.inr (.inr (.inl ⟨vC_no fun h => by have := h.2.2.2.2; omega, h1, h2, h3, h4, ebF a1, ebT a2, by omega⟩))))))))
  by_cases a3 : x.act = 3
  · by_cases l0 : x.ln = 0
    · by_cases v0 : x.v = 0
      · exact .inr (.inr (.inl ⟨vC_yes ⟨h1, h2, h3, h4, .inr (.inr ⟨a3, l0, v0⟩)⟩, h1, h2, h3, h4, ebF a1, ebF a2, ebT a3, ebT l0, ebT v0⟩))
      · exact .inr (.inr (.inr (.inr (.inr (.inr (.inr (.inr (.inr (.inr (.inl ⟨vC_no fun h => by have := h.2.2.2.2; omega, h1, h2, h3, h4, ebF a1, ebF a2, ebT a3, ebT l0, ebF v0⟩))))))))))
    · exact .inr (.inr (.inr (.inr (.inr (.inr (.inr (.inr (.inr (.inl ⟨vC_no fun h => by have := h.2.2.2.2; omega, h1, h2, h3, h4, ebF a1, ebF a2, ebT a3, ebF l0⟩)))))))))
  · exact .inr (.inr (.inr (.inr (.inr (.inr (.inr (.inr (.inr (.inr (.inr ⟨vC_no fun h => by have := h.2.2.2.2; omega, h1, h2, h3, h4, ebF a1, ebF a2, ebF a3⟩))))))))))
section
set_option maxHeartbeats 3200000
set_option maxRecDepth 20000
theorem ct_yes (n : Int) (w : World) (h1 : 0 ≤ n) (h2 : n ≤ 7200000) : Calls Tryz.prog 75 #[.int .i64 n] w fun e w' => e = .returned (.bool true) ∧ w = w' := by
  go_enter Tryz.func75, Tryz.ntmps75
  go_wp2_with ((go_at_call 76; first | (refine (in_yes _ _ _ _ (by omega) (by omega)).mono ?_; rintro e w' ⟨rfl, rfl⟩) | (refine (in_no _ _ _ _ (by omega)).mono ?_; rintro e w' ⟨rfl, rfl⟩)))
  go_ret
  exact ⟨rfl, rfl⟩
theorem ct_no (n : Int) (w : World) (h : n < 0 ∨ 7200000 < n) : Calls Tryz.prog 75 #[.int .i64 n] w fun e w' => e = .returned (.bool false) ∧ w = w' := by
  go_enter Tryz.func75, Tryz.ntmps75
  go_wp2_with ((go_at_call 76; first | (refine (in_yes _ _ _ _ (by omega) (by omega)).mono ?_; rintro e w' ⟨rfl, rfl⟩) | (refine (in_no _ _ _ _ (by omega)).mono ?_; rintro e w' ⟨rfl, rfl⟩)))
  go_ret
  exact ⟨rfl, rfl⟩
theorem iVC_any (x : Cu) (w : World) (hs1 : x.id.size ≤ maxLen) (hs2 : x.tg.size ≤ maxLen) {r : Bool} (hr : vC x = r) :
    Calls Tryz.prog 22 #[.agg #[.string x.id, .int .i64 x.t, .int .i64 x.ln, .string x.tg, .int .i64 x.act, .int .i64 x.v]] w fun e w' => e = .returned (.bool r) ∧ ∃ k : Ex w, w' = k.v := by
  subst hr
  rcases vC_cases x with ⟨hv, h1, h2, ⟨h3, h3'⟩, ⟨h4, h4'⟩, a1, l0⟩ | ⟨hv, h1, h2, ⟨h3, h3'⟩, ⟨h4, h4'⟩, a1, a2, l0, l1⟩ | ⟨hv, h1, h2, ⟨h3, h3'⟩, ⟨h4, h4'⟩, a1, a2, a3, l0, v0⟩ | ⟨hv, h1⟩ | ⟨hv, h1, h2⟩ | ⟨hv, h1, h2, h3⟩ | ⟨hv, h1, h2, ⟨h3, h3'⟩, h4⟩ | ⟨hv, h1, h2, ⟨h3, h3'⟩, ⟨h4, h4'⟩, a1, l0⟩ | ⟨hv, h1, h2, ⟨h3, h3'⟩, ⟨h4, h4'⟩, a1, a2, l0⟩ | ⟨hv, h1, h2, ⟨h3, h3'⟩, ⟨h4, h4'⟩, a1, a2, a3, l0⟩ | ⟨hv, h1, h2, ⟨h3, h3'⟩, ⟨h4, h4'⟩, a1, a2, a3, l0, v0⟩ | ⟨hv, h1, h2, ⟨h3, h3'⟩, ⟨h4, h4'⟩, a1, a2, a3⟩
  all_goals
    have HV := hid hv
    clear hv
    go_enter Tryz.func22, Tryz.ntmps22
    go_wp2_with (first | (go_at_call 38; first | (refine (isName_yes _ _ (by assumption)).mono ?_; rintro e w' ⟨rfl, rfl⟩) | (refine (isName_no _ _ (by assumption) (by assumption)).mono ?_; rintro e w' ⟨rfl, rfl⟩)) | (go_at_call 27; first | (refine (wi_yes _ _ _ _ (by omega) (by omega)).mono ?_; rintro e w' ⟨rfl, rfl⟩) | (refine (wi_no _ _ _ _ (by omega)).mono ?_; rintro e w' ⟨rfl, rfl⟩)))
    all_goals first | (go_ret; refine ⟨by rw [HV.out]; first | rfl | (simp; done) | simp_all, ?_⟩; (refine Ok.toEx ?_; (repeat (first | (with_reducible exact Ok.rf _) | (with_reducible refine Ok.alloc ?_ _) | (with_reducible refine Ok.ex ?_ _) | (with_reducible refine Ok.drew ?_) | (with_reducible refine Ok.setCellI ?_ _ _ _) | (with_reducible refine Ok.exb ?_ _))))) | (exfalso; simp_all; done) | (exfalso; simp_all; omega)
theorem sOne_any (x : Cu) (b z : Nat) (w : World) [LtW b w] (hc : CuAt w b z x) (hs1 : x.id.size ≤ maxLen) (hs2 : x.tg.size ≤ maxLen) {r : Bool} (hr : vC x = r) :
    Calls Tryz.prog 49 #[.pointer (some ⟨b, z, none⟩)] w fun e w' => e = .returned (.bool r) ∧ ∃ k : Ex w, w' = k.v := by
  subst hr
  obtain ⟨c0, c1, c2, c3, c4, c5⟩ := hc
  rcases vC_cases x with ⟨hv, h1, h2, ⟨h3, h3'⟩, ⟨h4, h4'⟩, a1, l0⟩ | ⟨hv, h1, h2, ⟨h3, h3'⟩, ⟨h4, h4'⟩, a1, a2, l0, l1⟩ | ⟨hv, h1, h2, ⟨h3, h3'⟩, ⟨h4, h4'⟩, a1, a2, a3, l0, v0⟩ | ⟨hv, h1⟩ | ⟨hv, h1, h2⟩ | ⟨hv, h1, h2, h3⟩ | ⟨hv, h1, h2, ⟨h3, h3'⟩, h4⟩ | ⟨hv, h1, h2, ⟨h3, h3'⟩, ⟨h4, h4'⟩, a1, l0⟩ | ⟨hv, h1, h2, ⟨h3, h3'⟩, ⟨h4, h4'⟩, a1, a2, l0⟩ | ⟨hv, h1, h2, ⟨h3, h3'⟩, ⟨h4, h4'⟩, a1, a2, a3, l0⟩ | ⟨hv, h1, h2, ⟨h3, h3'⟩, ⟨h4, h4'⟩, a1, a2, a3, l0, v0⟩ | ⟨hv, h1, h2, ⟨h3, h3'⟩, ⟨h4, h4'⟩, a1, a2, a3⟩
  all_goals
    have HV := hid hv
    clear hv
    go_enter Tryz.func49, Tryz.ntmps49
    go_wp2_with (first | (go_at_call 74; first | (refine (l01Name_yes _ _ (by assumption)).mono ?_; rintro e w' ⟨rfl, rfl⟩) | (refine (l01Name_no _ _ (by assumption) (by assumption)).mono ?_; rintro e w' ⟨rfl, rfl⟩)) | (go_at_call 75; first | (refine (ct_yes _ _ (by omega) (by omega)).mono ?_; rintro e w' ⟨rfl, rfl⟩) | (refine (ct_no _ _ (by omega)).mono ?_; rintro e w' ⟨rfl, rfl⟩)) | (go_at_call 76; first | (refine (in_yes _ _ _ _ (by omega) (by omega)).mono ?_; rintro e w' ⟨rfl, rfl⟩) | (refine (in_no _ _ _ _ (by omega)).mono ?_; rintro e w' ⟨rfl, rfl⟩)))
    all_goals first | (go_ret; refine ⟨by rw [HV.out]; first | rfl | (simp; done) | simp_all, ?_⟩; (refine Ok.toEx ?_; (repeat (first | (with_reducible exact Ok.rf _) | (with_reducible refine Ok.alloc ?_ _) | (with_reducible refine Ok.ex ?_ _) | (with_reducible refine Ok.drew ?_) | (with_reducible refine Ok.setCellI ?_ _ _ _) | (with_reducible refine Ok.exb ?_ _))))) | ((refine wp_region_ex (by kernel_rfl) (by kernel_rfl) ?_; (repeat (go_big_quiet_step (((go_at_call 76; first | exact calls_ex_same (in_yes _ _ _ _ (by omega) (by omega)) | exact calls_ex_same (in_no _ _ _ _ (by omega))))))); refine wpQuiet_nil ?_; rintro _ ⟨k, rfl⟩); go_wp2; go_ret; refine ⟨by rw [HV.out]; first | rfl | (simp; done) | simp_all, ?_⟩; (refine Ok.toEx ?_; (repeat (first | (with_reducible exact Ok.rf _) | (with_reducible refine Ok.alloc ?_ _) | (with_reducible refine Ok.ex ?_ _) | (with_reducible refine Ok.drew ?_) | (with_reducible refine Ok.setCellI ?_ _ _ _) | (with_reducible refine Ok.exb ?_ _))))) | (exfalso; simp_all; done) | (exfalso; simp_all; omega)
end
end Go.Proofs.YtdhflckombkimaaGreatDoor
namespace Go.Proofs.YtdhflckombkimaaGreatDoor
open Go.RowKit
/-- a slice of numbers, and where it lies -/
structure IR where
  A : Option Addr
  c : Nat
  l : List Int
def irC (x : IR) : List Value := [.slice x.A x.l.length x.c]
/-- the slice with base A holds slices that read as V -/
class Iss (w : World) (A : Option Addr) (V : List (List Int)) : Prop where
  len : V.length ≤ 9223372036854775807
  at_ : 0 < V.length → ∃ b o, A = some ⟨b, o, none⟩ ∧ LtW b w ∧ ∀ (k : Nat) (h : k < V.length), ∃ B c, w.cell? ⟨b, o + k, none⟩ = some (.slice B V[k].length c) ∧ Rd 1 iC w B V[k]
instance (priority := 900) Iss.ex {w : World} {A : Option Addr} {V : List (List Int)} [h : Iss w A V] (k : Ex w) : Iss k.v A V :=
  ⟨h.len, fun h0 => by
    obtain ⟨b, o, e, hb, hc⟩ := h.at_ h0
    refine ⟨b, o, e, inferInstance, fun i hi => ?_⟩
    obtain ⟨B, c, h1, h2⟩ := hc i hi
    exact ⟨B, c, (k.cell b _).trans h1, inferInstance⟩⟩
theorem Rd.but {α : Type} {sz : Nat} {f : α → List Value} {w w' : World} {A B : Option Addr} {l : List α} (h : Rd sz f w A l) (hb : But B w w') (hne : ∀ x o o', A = some ⟨x, o, none⟩ → B ≠ some ⟨x, o', none⟩) : Rd sz f w' A l :=
  ⟨h.len, fun h0 => by
    obtain ⟨b, o, e, hl, hc⟩ := h.at_ h0
    exact ⟨b, o, e, ⟨Nat.lt_of_lt_of_le hl.h hb.size⟩, fun i hi j v hv => (World.cell?_of_block (hb.block b hl.h fun o' => hne b o o' e)).trans (hc i hi j v hv)⟩⟩
/-- out of records -/
theorem Iss.of {w : World} {A : Option Addr} {L : List IR} (h : Rd 1 irC w A L) (hi : ∀ x ∈ L, Rd 1 iC w x.A x.l) : Iss w A (L.map IR.l) :=
  ⟨by have := h.len; simpa using this, fun h0 => by
    obtain ⟨b, o, e, hb, hc⟩ := h.at_ (by simpa using h0)
    refine ⟨b, o, e, hb, fun k hk => ?_⟩
    have hk' : k < L.length := by simpa using hk
    have h1 := hc k hk' 0 _ rfl
    rw [Nat.mul_one] at h1
    refine ⟨L[k].A, L[k].c, by simpa using h1, ?_⟩
    have := hi _ (List.getElem_mem hk')
    simpa using this⟩
section
set_option maxHeartbeats 1600000
end
end Go.Proofs.YtdhflckombkimaaGreatDoor
