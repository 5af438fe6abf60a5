/-
  markText: a text for a number. Conditions: those typed at each theorem.
-/
import Derived.Test.YtonmeffhelaohaaDoorV2
import Derived.Test.YtonmeffhelaohaaDoorV5
import Derived.Laws.BytesArg
namespace Go.Proofs.YtonmeffhelaohaaDoor
open Go.RowKit
/-- the digits of q ahead of s -/
def mD : Nat → Int → ByteArray → ByteArray
  | 0, _, s => s
  | f + 1, q, s => if 0 < q then mD f (q / 10) (strOfNums [48 + q % 10] ++ s) else s
theorem mD_go {f : Nat} {q : Int} {s : ByteArray} (h : 0 < q) : mD (f + 1) q s = mD f (q / 10) (strOfNums [48 + q % 10] ++ s) := by simp [mD, h]
theorem mD_end {f : Nat} {q : Int} {s : ByteArray} (h : ¬ 0 < q) : mD f q s = s := by cases f <;> simp [mD, h]
/-- the text for a number -/
def mTxt (k : Int) : ByteArray := ⟨#[109]⟩ ++ mD k.toNat k ⟨#[]⟩
theorem mD_size : ∀ (f : Nat) (q : Int) (s : ByteArray), (mD f q s).size ≤ f + s.size
  | 0, _, s => by simp [mD]
  | f + 1, q, s => by
    unfold mD
    split
    · have := mD_size f (q / 10) (strOfNums [48 + q % 10] ++ s)
      rw [ByteArray.size_append, strOfNums_size] at this
      simp at this
      omega
    · omega
section
set_option maxHeartbeats 1600000
set_option maxRecDepth 20000
theorem markText_any (k : Int) (w : World) (h0 : 1 ≤ k) (h1 : k ≤ 100000000) :
    Calls Tryd.prog 32 #[.int .i64 k] w fun e w' => e = .returned (.string (mTxt k)) ∧ ∃ k : Ex w, w' = k.v := by
  go_enter Tryd.func32, Tryd.ntmps32
  go_wp2
  go_loopw [3, 0] (fun t u wr => ∃ (q : Int) (s : ByteArray) (f : Nat), 0 ≤ q ∧ q ≤ 100000000 ∧ s.size + q.toNat ≤ 100000000 ∧ q.toNat ≤ f ∧ mD f q s = mD k.toNat k ⟨#[]⟩ ∧ t = .string s ∧ u = .int .i64 q ∧ ∃ j : Ex w, wr = j.v) (fun _ t _ => (intOf t).toNat)
  case atStart => exact ⟨k, ⟨#[]⟩, k.toNat, by omega, h1, by show 0 + k.toNat ≤ _; omega, Nat.le_refl _, rfl, rfl, rfl, Ex.rf w, rfl⟩
  case round =>
    obtain ⟨q, s, f, hq, hq2, hs, hf, hm, rfl, rfl, j0, rfl⟩ := hrel
    have HM := hid hm
    clear hm
    by_cases hlt : 0 < q
    · obtain ⟨f, rfl⟩ : ∃ g, f = g + 1 := ⟨f - 1, by omega⟩
      have hconv := run_convert_bytes_arg (P := Tryd.prog) (j0.v.alloc (.cells #[.int .u8 (48 + q % 10)] 5)) 33 5 Tryd.underlying33 Tryd.underlying5 j0.v.heap.size 0 1 1 [48 + q % 10] rfl (fun i hi => by
        obtain rfl : i = 0 := by omega
        simp [go_sem]) 9 Tryd.underlying9
      have hsz := strOfNums_size [48 + q % 10]
      have HM2 : Hid (mD f (q / 10) (strOfNums [48 + q % 10] ++ s) = mD k.toNat k ⟨#[]⟩) := hid (by rw [← HM.out, mD_go hlt])
      generalize strOfNums [48 + q % 10] = z at *
      simp at hsz
      go_wp2
      go_roundw
      case rel => exact ⟨q / 10, z ++ s, f, by omega, by omega, by rw [ByteArray.size_append]; omega, by omega, HM2.out, rfl, rfl, j0.tr (Ex.of ((Below.refl _ _).alloc (Nat.le_refl _) _)), rfl⟩
      case measure => simp [intOf]; omega
    · have HM2 : Hid (⟨#[109]⟩ ++ s = mTxt k) := hid (by unfold mTxt; rw [← HM.out, mD_end hlt])
      go_wp2
      go_ret
      exact ⟨by rw [← HM2.out]; rfl, j0, rfl⟩
end
end Go.Proofs.YtonmeffhelaohaaDoor
