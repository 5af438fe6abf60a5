/-
  Cues: what it means that a slice holds them; the laws' helpers: size, copy, comparison. Conditions: those typed at each theorem.
-/
import Derived.Test.YtpodgojijkficaaDoorName
import Derived.Test.YtpodgojijkficaaDoorRow
namespace Go.Proofs.YtpodgojijkficaaDoor
open Go.RowKit
structure Cu where
  id : ByteArray
  t : Int
  ln : Int
  tg : ByteArray
  act : Int
  v : Int
instance : Inhabited Cu := ⟨⟨⟨#[]⟩, 0, 0, ⟨#[]⟩, 0, 0⟩⟩
def bI (n : Int) : Prop := -9223372036854775808 ≤ n ∧ n ≤ 9223372036854775807
def Cu.ok (x : Cu) : Prop := x.id.size ≤ 9223372036854775807 ∧ x.tg.size ≤ 9223372036854775807 ∧ bI x.t ∧ bI x.ln ∧ bI x.act ∧ bI x.v
/-- the cells of a cue -/
def cC (x : Cu) : List Value := [.string x.id, .int .i64 x.t, .int .i64 x.ln, .string x.tg, .int .i64 x.act, .int .i64 x.v]
/-- the cells of cue x lie at offset p of block b -/
structure CuAt (w : World) (b p : Nat) (x : Cu) : Prop where
  c0 : w.cell? ⟨b, p, none⟩ = some (.string x.id)
  c1 : w.cell? ⟨b, p + 1, none⟩ = some (.int .i64 x.t)
  c2 : w.cell? ⟨b, p + 2, none⟩ = some (.int .i64 x.ln)
  c3 : w.cell? ⟨b, p + 3, none⟩ = some (.string x.tg)
  c4 : w.cell? ⟨b, p + 4, none⟩ = some (.int .i64 x.act)
  c5 : w.cell? ⟨b, p + 5, none⟩ = some (.int .i64 x.v)
theorem CuAt.of {w : World} {b p : Nat} {x : Cu} (h : ∀ (j : Nat) (v : Value), (cC x)[j]? = some v → w.cell? ⟨b, p + j, none⟩ = some v) : CuAt w b p x := ⟨h 0 _ rfl, h 1 _ rfl, h 2 _ rfl, h 3 _ rfl, h 4 _ rfl, h 5 _ rfl⟩
/-- each cue is one that memory can hold -/
class COks (l : List Cu) : Prop where h : ∀ x ∈ l, x.ok
/-- each text is short -/
class CSm (l : List Cu) : Prop where h : ∀ x ∈ l, x.id.size ≤ 1048576 ∧ x.tg.size ≤ 1048576
/-- cue k, or none -/
def cuG (l : List Cu) (k : Nat) : Cu := l.getD k default
theorem cuG_at {l : List Cu} {k : Nat} (h : k < l.length) : cuG l k = l[k] := by simp [cuG, List.getD, h]
theorem Rd.cu {w : World} {A : Option Addr} {l : List Cu} (h : Rd 6 cC w A l) : 0 < l.length → ∃ b o, A = some ⟨b, o, none⟩ ∧ LtW b w ∧ ∀ (k : Nat) (_ : k < l.length), CuAt w b (o + k * 6) (cuG l k) := fun h0 => by
  obtain ⟨b, o, e, hb, hc⟩ := h.at_ h0
  exact ⟨b, o, e, hb, fun k hk => by rw [cuG_at hk]; exact CuAt.of (hc k hk)⟩
theorem Filling.stepc {e : TypeId} {w : World} {b : Nat} {l : List Cu} {q : Nat} (h : Filling e 6 cC w b l q) (hq : q < l.length) {x : Cu} (hx : cuG l q = x) : Filling e 6 cC (setCells w b (q * 6) (cC x)) b l (q + 1) := by
  have := h.step hq rfl
  rw [cuG_at hq] at hx
  rwa [hx] at this
section
set_option maxHeartbeats 3200000
set_option maxRecDepth 20000
theorem toCue_any (x : Cu) (w : World) : Calls Tryd.prog 7 #[.agg #[.string x.id, .int .i64 x.t, .int .i64 x.ln, .string x.tg, .int .i64 x.act, .int .i64 x.v]] w fun e w' => e = .returned (.agg #[.string x.id, .int .i64 x.t, .int .i64 x.ln, .string x.tg, .int .i64 x.act, .int .i64 x.v]) ∧ ∃ k : Ex w, w' = k.v := by
  go_enter Tryd.func7, Tryd.ntmps7
  go_wp2
  (refine bodyPost_ret (v := _) (by simp [results, Tryd.results7, go_sem]; rfl) rfl ⟨by first | rfl | (simp; done), ?_⟩; (refine Ok.toEx ?_; (repeat (first | (with_reducible exact Ok.rf _) | (with_reducible refine Ok.alloc ?_ _) | (with_reducible refine Ok.ex ?_ _) | (with_reducible refine Ok.drew ?_) | (with_reducible refine Ok.setCellI ?_ _ _ _) | (with_reducible refine Ok.exb ?_ _)))))
theorem szCue_any (x : Cu) (n : Int) (w : World) (h1 : x.id.size ≤ 9223372036854775807) (h2 : x.tg.size ≤ 9223372036854775807) (h3 : 0 ≤ n) (h4 : n ≤ 1048576) :
    Calls Tryd.prog 5 #[.agg #[.string x.id, .int .i64 x.t, .int .i64 x.ln, .string x.tg, .int .i64 x.act, .int .i64 x.v], .int .i64 n] w fun e w' => ∃ m : Int, e = .returned (.int .i64 m) ∧ (-1 ≤ m ∧ m ≤ n ∧ (0 ≤ m → x.id.size ≤ 1048576 ∧ x.tg.size ≤ 1048576)) ∧ ∃ k : Ex w, w' = k.v := by
  by_cases hs : n - x.id.size < 0
  · go_enter Tryd.func5, Tryd.ntmps5
    go_wp2
    go_ret
    refine ⟨_, rfl, by omega, ?_⟩
    (refine Ok.toEx ?_; (repeat (first | (with_reducible exact Ok.rf _) | (with_reducible refine Ok.alloc ?_ _) | (with_reducible refine Ok.ex ?_ _) | (with_reducible refine Ok.drew ?_) | (with_reducible refine Ok.setCellI ?_ _ _ _) | (with_reducible refine Ok.exb ?_ _))))
  · by_cases hs2 : n - x.id.size - x.tg.size < 0
    all_goals
      go_enter Tryd.func5, Tryd.ntmps5
      go_wp2
      go_ret
      refine ⟨_, rfl, by omega, ?_⟩
      (refine Ok.toEx ?_; (repeat (first | (with_reducible exact Ok.rf _) | (with_reducible refine Ok.alloc ?_ _) | (with_reducible refine Ok.ex ?_ _) | (with_reducible refine Ok.drew ?_) | (with_reducible refine Ok.setCellI ?_ _ _ _) | (with_reducible refine Ok.exb ?_ _))))
theorem infoCue : (Tryd.prog.info? 26).map (fun i => (i.zero, i.size, i.bytes)) = some (some (.agg #[.string ⟨#[]⟩, .int .i64 0, .int .i64 0, .string ⟨#[]⟩, .int .i64 0, .int .i64 0]), 6, 64) := by kernel_rfl
end
end Go.Proofs.YtpodgojijkficaaDoor
