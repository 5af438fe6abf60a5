/-
  The bytes of a text, one by one. Conditions: those typed at each theorem.
-/
import Derived.Test.YtonmeffhelaohaaDoorErs
import Derived.Test.YtonmeffhelaohaaDoorNumP
import Derived.Test.YtonmeffhelaohaaDoorInts
import Derived.Test.YtonmeffhelaohaaDoorAppB
import Derived.Lib.Split
import Derived.BigQuiet
import Derived.Laws.StructEq
import Derived.Laws.Strings2
import Derived.Laws.Strings3
import Derived.Deep.Cut
import Derived.Deep.CutRange
namespace Go.Proofs.YtonmeffhelaohaaDoor
open Go.RowKit
/-- byte k of a text -/
def cB (s : ByteArray) (k : Nat) : UInt8 := s.data.toList.getD k 0
theorem idx_cB (s : ByteArray) (i : Int) (k : Nat) (hi : i = k) (hk : k < s.size) (W : World) : (Instr.index 9 (.string s) (.int .i64 i)).run Tryd.prog W = .ok (.int .u8 ((cB s k).toNat : Int)) W := by
  subst hi
  rw [run_index_string (P := Tryd.prog) W 9 s .i64 k Tryd.underlying9, dif_pos ⟨by omega, by omega⟩]
  have hl : s.data.toList.length = s.size := by simp
  have e : s[(k : Int).toNat]'(by omega) = cB s k := by
    unfold cB
    rw [List.getD_eq_getElem?_getD, List.getElem?_eq_getElem (by omega)]
    simp
    rfl
  rw [e]
end Go.Proofs.YtonmeffhelaohaaDoor
