/-
  What of the library's variables lies in memory: the errors of strconv, the greatest length of a short search. Conditions: those typed at each theorem.
-/
import Derived.Test.YtonmeffhelaohaaDoorDec
namespace Go.Proofs.YtonmeffhelaohaaDoor
open Go.RowKit
/-- the library's error for a text that is no number -/
class Es (w : World) : Prop where h : ∃ tp p, w.var? Tryd.prog "strconv.ErrSyntax" = some #[.iface tp p]
/-- the library's error for a number out of range -/
class Er (w : World) : Prop where h : ∃ tp p, w.var? Tryd.prog "strconv.ErrRange" = some #[.iface tp p]
section
variable {w : World}
instance (priority := 900) Es.ex [h : Es w] (k : Ex w) : Es k.v := by
  obtain ⟨tp, p, h1⟩ := h.h
  exact ⟨tp, p, var_keep h1 fun _ hg => k.block hg⟩
instance (priority := 900) Es.alloc [h : Es w] (o : Obj) : Es (w.alloc o) := Es.ex (h := h) (Ex.of ((Below.refl _ _).alloc (Nat.le_refl _) o))
instance (priority := 900) Es.drew [h : Es w] : Es w.drew := Es.ex (h := h) (Ex.of (Below.refl _ _).drew)
instance (priority := 900) Er.ex [h : Er w] (k : Ex w) : Er k.v := by
  obtain ⟨tp, p, h1⟩ := h.h
  exact ⟨tp, p, var_keep h1 fun _ hg => k.block hg⟩
instance (priority := 900) Er.alloc [h : Er w] (o : Obj) : Er (w.alloc o) := Er.ex (h := h) (Ex.of ((Below.refl _ _).alloc (Nat.le_refl _) o))
instance (priority := 900) Er.drew [h : Er w] : Er w.drew := Er.ex (h := h) (Ex.of (Below.refl _ _).drew)
end
/-- the greatest length of a short search -/
class Ml (w : World) : Prop where h : ∃ m : Int, w.cell? ⟨2, 0, none⟩ = some (.int .i64 m)
instance (priority := 900) Ml.ex {w : World} [h : Ml w] (k : Ex w) : Ml k.v := by
  obtain ⟨m, h1⟩ := h.h
  exact ⟨m, (World.cell?_of_block (k.block (World.block_lt_of_cell? _ _ h1))).trans h1⟩
instance (priority := 900) Ml.alloc {w : World} [h : Ml w] (o : Obj) : Ml (w.alloc o) := Ml.ex (h := h) (Ex.of ((Below.refl _ _).alloc (Nat.le_refl _) o))
instance (priority := 900) Ml.drew {w : World} [h : Ml w] : Ml w.drew := Ml.ex (h := h) (Ex.of (Below.refl _ _).drew)
end Go.Proofs.YtonmeffhelaohaaDoor
