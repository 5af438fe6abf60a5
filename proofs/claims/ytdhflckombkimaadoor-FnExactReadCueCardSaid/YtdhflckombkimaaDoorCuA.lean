/-
  Cues: what it means that a slice holds them; the laws' helpers: size, copy, comparison. Conditions: those typed at each theorem.
-/
import Derived.Test.YtdhflckombkimaaDoorName
import Derived.Test.YtdhflckombkimaaDoorRow
namespace Go.Proofs.YtdhflckombkimaaDoor
open Go.RowKit
structure Cu where
  id : ByteArray
  t : Int
  ln : Int
  tg : ByteArray
  act : Int
  v : Int
instance : Inhabited Cu := ⟨⟨⟨#[]⟩, 0, 0, ⟨#[]⟩, 0, 0⟩⟩
def bI (n : Int) : Prop := -9223372036854775808 ≤ n ∧ n ≤ 9223372036854775807
def Cu.ok (x : Cu) : Prop := x.id.size ≤ 9223372036854775807 ∧ x.tg.size ≤ 9223372036854775807 ∧ bI x.t ∧ bI x.ln ∧ bI x.act ∧ bI x.v
/-- the cells of a cue -/
def cC (x : Cu) : List Value := [.string x.id, .int .i64 x.t, .int .i64 x.ln, .string x.tg, .int .i64 x.act, .int .i64 x.v]
/-- the cells of cue x lie at offset p of block b -/
structure CuAt (w : World) (b p : Nat) (x : Cu) : Prop where
  c0 : w.cell? ⟨b, p, none⟩ = some (.string x.id)
  c1 : w.cell? ⟨b, p + 1, none⟩ = some (.int .i64 x.t)
  c2 : w.cell? ⟨b, p + 2, none⟩ = some (.int .i64 x.ln)
  c3 : w.cell? ⟨b, p + 3, none⟩ = some (.string x.tg)
  c4 : w.cell? ⟨b, p + 4, none⟩ = some (.int .i64 x.act)
  c5 : w.cell? ⟨b, p + 5, none⟩ = some (.int .i64 x.v)
theorem CuAt.of {w : World} {b p : Nat} {x : Cu} (h : ∀ (j : Nat) (v : Value), (cC x)[j]? = some v → w.cell? ⟨b, p + j, none⟩ = some v) : CuAt w b p x := ⟨h 0 _ rfl, h 1 _ rfl, h 2 _ rfl, h 3 _ rfl, h 4 _ rfl, h 5 _ rfl⟩
/-- each cue is one that memory can hold -/
class COks (l : List Cu) : Prop where h : ∀ x ∈ l, x.ok
/-- each text is short -/
class CSm (l : List Cu) : Prop where h : ∀ x ∈ l, x.id.size ≤ 1048576 ∧ x.tg.size ≤ 1048576
/-- cue k, or none -/
def cuG (l : List Cu) (k : Nat) : Cu := l.getD k default
theorem cuG_at {l : List Cu} {k : Nat} (h : k < l.length) : cuG l k = l[k] := by simp [cuG, List.getD, h]
theorem Rd.cu {w : World} {A : Option Addr} {l : List Cu} (h : Rd 6 cC w A l) : 0 < l.length → ∃ b o, A = some ⟨b, o, none⟩ ∧ LtW b w ∧ ∀ (k : Nat) (_ : k < l.length), CuAt w b (o + k * 6) (cuG l k) := fun h0 => by
  obtain ⟨b, o, e, hb, hc⟩ := h.at_ h0
  exact ⟨b, o, e, hb, fun k hk => by rw [cuG_at hk]; exact CuAt.of (hc k hk)⟩
theorem Filling.stepc {e : TypeId} {w : World} {b : Nat} {l : List Cu} {q : Nat} (h : Filling e 6 cC w b l q) (hq : q < l.length) {x : Cu} (hx : cuG l q = x) : Filling e 6 cC (setCells w b (q * 6) (cC x)) b l (q + 1) := by
  have := h.step hq rfl
  rw [cuG_at hq] at hx
  rwa [hx] at this
section
set_option maxHeartbeats 3200000
set_option maxRecDepth 20000
theorem infoCue : (Tryd.prog.info? 23).map (fun i => (i.zero, i.size, i.bytes)) = some (some (.agg #[.string ⟨#[]⟩, .int .i64 0, .int .i64 0, .string ⟨#[]⟩, .int .i64 0, .int .i64 0]), 6, 64) := by kernel_rfl
end
end Go.Proofs.YtdhflckombkimaaDoor
