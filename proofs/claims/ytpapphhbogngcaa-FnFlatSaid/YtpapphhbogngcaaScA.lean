/-
  Lines of scripts: what it means that a slice holds them; contracts of the search of a label. Conditions: those typed at each theorem.
-/
import Derived.Test.YtpapphhbogngcaaName
import Derived.Test.YtpapphhbogngcaaRow
namespace Go.Proofs.Ytpapphhbogngcaa
open Go.RowKit

structure Ln where
  kind : Int
  name : ByteArray
  value : Int
def Ln.ok (x : Ln) : Prop := -9223372036854775808 ≤ x.kind ∧ x.kind ≤ 9223372036854775807 ∧ x.name.size ≤ 9223372036854775807 ∧ -9223372036854775808 ≤ x.value ∧ x.value ≤ 9223372036854775807
/-- the cells of line x lie at offset p of block b -/
structure LnAt (w : World) (b p : Nat) (x : Ln) : Prop where
  c0 : w.cell? ⟨b, p, none⟩ = some (.int .i64 x.kind)
  c1 : w.cell? ⟨b, p + 1, none⟩ = some (.string x.name)
  c2 : w.cell? ⟨b, p + 2, none⟩ = some (.int .i64 x.value)
/-- the cells of a line -/
def Ln.cells (x : Ln) : List Value := [.int .i64 x.kind, .string x.name, .int .i64 x.value]
theorem LnAt.of {w : World} {b p : Nat} {x : Ln} (h : ∀ (j : Nat) (v : Value), (x.cells)[j]? = some v → w.cell? ⟨b, p + j, none⟩ = some v) : LnAt w b p x := ⟨h 0 _ rfl, h 1 _ rfl, h 2 _ rfl⟩
/-- each line is one that memory can hold -/
class Oks (l : List Ln) : Prop where h : ∀ x ∈ l, x.ok
/-- each name is short -/
class Sm (l : List Ln) : Prop where h : ∀ x ∈ l, x.name.size ≤ 1048576
/-- the slice with base A holds the lines l -/
class Lns (w : World) (A : Option Addr) (l : List Ln) : Prop extends Oks l, Rd 3 Ln.cells w A l
instance {w : World} {A : Option Addr} {l : List Ln} [h1 : Oks l] [h2 : Rd 3 Ln.cells w A l] : Lns w A l := { toOks := h1, toRd := h2 }
theorem Lns.at {w : World} {A : Option Addr} {l : List Ln} (h : Lns w A l) : 0 < l.length → ∃ b o, A = some ⟨b, o, none⟩ ∧ LtW b w ∧ ∀ (k : Nat) (h : k < l.length), LnAt w b (o + k * 3) l[k] := fun h0 => by
  obtain ⟨b, o, e, hb, hc⟩ := h.toRd.at_ h0
  exact ⟨b, o, e, hb, fun k hk => LnAt.of (hc k hk)⟩
/-- is x the label nm? -/
def isLbl (nm : ByteArray) (x : Ln) : Prop := x.kind = 1 ∧ (x.name.toList == nm.toList) = true
instance (nm : ByteArray) (x : Ln) : Decidable (isLbl nm x) := by unfold isLbl; infer_instance
/-- where the label stands first, or -1 -/
def lbl (l : List Ln) (nm : ByteArray) : Int := match l.findIdx? (fun x => decide (isLbl nm x)) with | some i => i | none => -1
theorem lbl_hit {l : List Ln} {nm : ByteArray} {k : Nat} (hk : k < l.length) (h : isLbl nm l[k]) (hb : ∀ j (hj : j < k), ¬ isLbl nm (l[j]'(by omega))) : lbl l nm = k := by
  have : l.findIdx? (fun x => decide (isLbl nm x)) = some k := by
    rw [List.findIdx?_eq_some_iff_getElem]
    exact ⟨hk, by simpa using h, fun j hj => by simpa using hb j hj⟩
  unfold lbl; rw [this]
theorem lbl_miss {l : List Ln} {nm : ByteArray} (hb : ∀ j (hj : j < l.length), ¬ isLbl nm l[j]) : lbl l nm = -1 := by
  have : l.findIdx? (fun x => decide (isLbl nm x)) = none := by
    rw [List.findIdx?_eq_none_iff]
    intro x hx
    obtain ⟨j, hj, rfl⟩ := List.getElem_of_mem hx
    simpa using hb j hj
  unfold lbl; rw [this]
section
set_option maxHeartbeats 1600000
theorem l15Label_any (A : Option Addr) (c : Nat) (l : List Ln) (nm : ByteArray) (w : World) (hl : Lns w A l) :
    Calls Try.prog 80 #[.slice A l.length c, .string nm] w fun e w' => e = .returned (.int .i64 (lbl l nm)) ∧ w = w' := by
  have hlen := hl.len
  have hat := hl.at
  clear hl
  have HA := hid hat
  clear hat
  go_enter Try.func80, Try.ntmps80
  go_wp2
  go_loop [5] (fun t => ∃ k : Nat, k ≤ l.length ∧ t = .int .i64 k ∧ ∀ j (hj : j < k) (hl : j < l.length), ¬ isLbl nm l[j]) (fun t => l.length - (intOf t).toNat)
  case atStart => exact ⟨0, Nat.zero_le _, rfl, fun j hj => absurd hj (by omega)⟩
  case round =>
    obtain ⟨k, hk, rfl, hb⟩ := hrel
    have HB := hid hb
    clear hb
    by_cases hlt : k < l.length
    · obtain ⟨b, o, rfl, hbw, hc⟩ := HA.out (by omega)
      have hc := hc k hlt
      by_cases hp : isLbl nm l[k]
      · have HR := hid (lbl_hit hlt hp fun j hj => HB.out j hj (by omega))
        obtain ⟨p1, p2⟩ := hp
        obtain ⟨c0, c1, c2⟩ := hc
        generalize l[k] = x at *
        go_wp2
        go_ret
        exact ⟨by rw [HR.out]; rfl, rfl⟩
      · have hnx : ∀ j (hj : j < k + 1) (hl : j < l.length), ¬ isLbl nm l[j] := fun j hj hl => by
          rcases Nat.lt_or_ge j k with h | h
          · exact HB.out j h hl
          · obtain rfl : j = k := by omega
            exact hp
        have HN := hid hnx
        obtain ⟨c0, c1, c2⟩ := hc
        have hp' : ¬ l[k].kind = 1 ∨ (l[k].kind = 1 ∧ (l[k].name.toList == nm.toList) = false) := by
          by_cases h1 : l[k].kind = 1
          · exact .inr ⟨h1, by cases h2 : (l[k].name.toList == nm.toList) with
              | true => exact absurd ⟨h1, h2⟩ hp
              | false => rfl⟩
          · exact .inl h1
        clear hnx hp
        generalize l[k] = x at *
        rcases hp' with p1 | ⟨p1, p2⟩
        all_goals
          go_wp2
          go_round
          case rel => exact ⟨k + 1, by omega, by go_num, HN.out⟩
          case measure => simp [intOf]; omega
    · go_wp2
      go_ret
      exact ⟨by rw [lbl_miss fun j hj => HB.out j (by omega) hj]; rfl, rfl⟩
end
end Go.Proofs.Ytpapphhbogngcaa
