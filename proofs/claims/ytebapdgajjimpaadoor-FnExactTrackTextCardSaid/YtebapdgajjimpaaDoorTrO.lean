/-
  Tracks, keys and slices of tracks among the arguments. Conditions: none beside the reading.
-/
import Derived.Test.YtebapdgajjimpaaDoorOpenS
import Derived.Test.YtebapdgajjimpaaDoorKeys
namespace Go.Proofs.YtebapdgajjimpaaDoor
open Go.RowKit Go.ChangeShapes Go.WideShapes Go.Deep
/-- a key that a machine can hold -/
def Ky.ok (x : Ky) : Prop := i64' x.t ∧ i64' x.v
/-- a track, and where its keys lie -/
structure Tr where
  nm : ByteArray
  A : Option Addr
  c : Nat
  l : List Ky
def trC (x : Tr) : List Value := [.string x.nm, .slice x.A x.l.length x.c]
section
variable {H : Type} {enc : TypeId × Value → H} {P : Program} {w : World} {base : Nat} {spare : Nat → Bool} {held : Bool}
theorem dec_key {e : TypeId} {f0 f1 : Field} (hs : P.underlying e = some (.struct #[f0, f1])) (hone : oneCellFields P #[f0, f1] = true) (hC : P.cellsOf e = 2) (h0 : P.underlying f0.type = some (.int .i64)) (h1 : P.underlying f1.type = some (.int .i64))
    (n : Nat) (cs : List Value) (y : DataW H × List MemPlace) (hd : DataW.trod enc P w base spare held n e cs = some y) : ∃ x : Ky, cs = kC x ∧ x.ok := by
  obtain ⟨hl, n', hg⟩ := dec_fields hs hone hC hd
  match cs, hl with
  | [c0, c1], _ =>
    obtain ⟨u0, y0, e0, g0⟩ := hg 0 f0 rfl
    obtain ⟨u1, y1, e1, g1⟩ := hg 1 f1 rfl
    obtain ⟨n0, rfl, w0⟩ := dec_int h0 g0
    obtain ⟨n1, rfl, w1⟩ := dec_int h1 g1
    simp at e0 e1
    subst e0 e1
    exact ⟨⟨n0, n1⟩, rfl, w0, w1⟩
theorem dec_track {t e e2 : TypeId} {f0 f1 g0 g1 : Field} (hs : P.underlying t = some (.struct #[f0, f1])) (hone : oneCellFields P #[f0, f1] = true) (hC : P.cellsOf t = 2) (h0 : P.underlying f0.type = some .string) (h1 : P.underlying f1.type = some (.slice e2))
    (hs2 : P.underlying e2 = some (.struct #[g0, g1])) (hone2 : oneCellFields P #[g0, g1] = true) (hC2 : P.cellsOf e2 = 2) (k0 : P.underlying g0.type = some (.int .i64)) (k1 : P.underlying g1.type = some (.int .i64))
    (n : Nat) (cs : List Value) (y : DataW H × List MemPlace) (hd : DataW.trod enc P w base spare held n t cs = some y) : ∃ x : Tr, cs = trC x ∧ (x.nm.size ≤ 9223372036854775807 ∧ Rd 2 kC w x.A x.l ∧ ∀ z ∈ x.l, z.ok) := by
  obtain ⟨hl, n', hg⟩ := dec_fields hs hone hC hd
  match cs, hl with
  | [c0, c1], _ =>
    obtain ⟨u0, y0, e0, q0⟩ := hg 0 f0 rfl
    obtain ⟨u1, y1, e1, q1⟩ := hg 1 f1 rfl
    obtain ⟨n0, rfl, w0⟩ := dec_str h0 q0
    obtain ⟨A, l, c, hu, hr, hp⟩ := dec_rd (f := kC) (p := Ky.ok) h1 hC2 (by omega) (fun _ => rfl) (dec_key hs2 hone2 hC2 k0 k1) q1
    simp at e0 e1 hu
    subst e0 e1 hu
    exact ⟨⟨n0, A, c, l⟩, rfl, w0, hr, hp⟩
theorem op_track {r : Reach} {b0 : Nat} {t e2 : TypeId} {f0 f1 g0 g1 : Field} {v : Value} {d : DataW H} {p : List MemPlace} (hs : P.underlying t = some (.struct #[f0, f1])) (hone : oneCellFields P #[f0, f1] = true) (hC : P.cellsOf t = 2) (h0 : P.underlying f0.type = some .string) (h1 : P.underlying f1.type = some (.slice e2))
    (hs2 : P.underlying e2 = some (.struct #[g0, g1])) (hone2 : oneCellFields P #[g0, g1] = true) (hC2 : P.cellsOf e2 = 2) (k0 : P.underlying g0.type = some (.int .i64)) (k1 : P.underlying g1.type = some (.int .i64))
    (hv : Value.okWide P w r b0 t v) (h : DataW.Trod enc P w base spare held t v d p) :
    ∃ (nm : ByteArray) (A : Option Addr) (l : List Ky) (c : Nat), v = .agg #[.string nm, .slice A l.length c] ∧ Rd 2 kC w A l ∧ nm.size ≤ 9223372036854775807 ∧ ∀ z ∈ l, z.ok := by
  obtain ⟨cs, n, rfl, hl, hg⟩ := op_fields hs hone hC hv h
  match cs, hl with
  | [c0, c1], _ =>
    obtain ⟨u0, y0, e0, q0⟩ := hg 0 f0 rfl
    obtain ⟨u1, y1, e1, q1⟩ := hg 1 f1 rfl
    obtain ⟨n0, rfl, w0⟩ := dec_str h0 q0
    obtain ⟨A, l, c, hu, hr, hp⟩ := dec_rd (f := kC) (p := Ky.ok) h1 hC2 (by omega) (fun _ => rfl) (dec_key hs2 hone2 hC2 k0 k1) q1
    simp at e0 e1 hu
    subst e0 e1 hu
    exact ⟨n0, A, l, c, rfl, hr, w0, hp⟩
theorem op_key {r : Reach} {b0 : Nat} {t : TypeId} {f0 f1 : Field} {v : Value} {d : DataW H} {p : List MemPlace} (hs : P.underlying t = some (.struct #[f0, f1])) (hone : oneCellFields P #[f0, f1] = true) (hC : P.cellsOf t = 2)
    (h0 : P.underlying f0.type = some (.int .i64)) (h1 : P.underlying f1.type = some (.int .i64)) (hv : Value.okWide P w r b0 t v) (h : DataW.Trod enc P w base spare held t v d p) :
    ∃ x : Ky, v = .agg #[.int .i64 x.t, .int .i64 x.v] ∧ x.ok := by
  obtain ⟨cs, n, rfl, hl, hg⟩ := op_fields hs hone hC hv h
  match cs, hl with
  | [c0, c1], _ =>
    obtain ⟨u0, y0, e0, q0⟩ := hg 0 f0 rfl
    obtain ⟨u1, y1, e1, q1⟩ := hg 1 f1 rfl
    obtain ⟨n0, rfl, w0⟩ := dec_int h0 q0
    obtain ⟨n1, rfl, w1⟩ := dec_int h1 q1
    simp at e0 e1
    subst e0 e1
    exact ⟨⟨n0, n1⟩, rfl, w0, w1⟩
/-- the slice with base A holds the tracks L -/
class Trs (w : World) (A : Option Addr) (L : List Tr) : Prop where
  rd : Rd 2 trC w A L
  kd : ∀ x ∈ L, x.nm.size ≤ 9223372036854775807 ∧ Rd 2 kC w x.A x.l
theorem op_tracks {r : Reach} {b0 : Nat} {t e e2 : TypeId} {f0 f1 g0 g1 : Field} {v : Value} {d : DataW H} {p : List MemPlace} (ht : P.underlying t = some (.slice e)) (hs : P.underlying e = some (.struct #[f0, f1])) (hone : oneCellFields P #[f0, f1] = true) (hC : P.cellsOf e = 2) (h0 : P.underlying f0.type = some .string) (h1 : P.underlying f1.type = some (.slice e2))
    (hs2 : P.underlying e2 = some (.struct #[g0, g1])) (hone2 : oneCellFields P #[g0, g1] = true) (hC2 : P.cellsOf e2 = 2) (k0 : P.underlying g0.type = some (.int .i64)) (k1 : P.underlying g1.type = some (.int .i64))
    (hv : Value.okWide P w r b0 t v) (h : DataW.Trod enc P w base spare held t v d p) :
    ∃ (A : Option Addr) (L : List Tr) (c : Nat), v = .slice A L.length c ∧ Trs w A L := by
  obtain ⟨A, L, c, rfl, hr, hp⟩ := op_rd (f := trC) (p := fun x => x.nm.size ≤ 9223372036854775807 ∧ Rd 2 kC w x.A x.l ∧ ∀ z ∈ x.l, z.ok) ht hC (by omega) (fun _ => rfl) (dec_track (e := e) hs hone hC h0 h1 hs2 hone2 hC2 k0 k1) hv h
  exact ⟨A, L, c, rfl, hr, fun x hx => ⟨(hp x hx).1, (hp x hx).2.1⟩⟩
end
end Go.Proofs.YtebapdgajjimpaaDoor
