/-
  Lines of scripts: what it means that a slice holds them; contracts of the search of a label. Conditions: those typed at each theorem.
  Contracts of labelIndex (a search by a closure) and of the comparison of scripts. Conditions: those typed at each theorem.
  Contracts of the laws' helpers over lines: size, copy, comparison. Conditions: those typed at each theorem.
  The laws' copy of lines: a row of its own; comparison of slices. Conditions: those typed at each theorem.
  Slices of numbers: the laws' helpers. Conditions: those typed at each theorem.
  Keys of tracks, in plain words: what a valid track is, and its value at a time. Conditions: those typed at each theorem.
  The value of keys at a time, in plain words. Conditions: those typed at each theorem.
  Contracts of l00Put (a number put to its place, once) and l00Has. Conditions: those typed at each theorem.
-/
import Derived.Test.YtonmeffhelaohaaDoorV2
import Derived.Test.YtonmeffhelaohaaDoorV5
namespace Go.Proofs.YtonmeffhelaohaaDoor
open Go.RowKit

structure Ln where
  kind : Int
  name : ByteArray
  value : Int
def Ln.ok (x : Ln) : Prop := -9223372036854775808 ≤ x.kind ∧ x.kind ≤ 9223372036854775807 ∧ x.name.size ≤ 9223372036854775807 ∧ -9223372036854775808 ≤ x.value ∧ x.value ≤ 9223372036854775807
/-- the cells of line x lie at offset p of block b -/
structure LnAt (w : World) (b p : Nat) (x : Ln) : Prop where
  c0 : w.cell? ⟨b, p, none⟩ = some (.int .i64 x.kind)
  c1 : w.cell? ⟨b, p + 1, none⟩ = some (.string x.name)
  c2 : w.cell? ⟨b, p + 2, none⟩ = some (.int .i64 x.value)
/-- the cells of a line -/
def Ln.cells (x : Ln) : List Value := [.int .i64 x.kind, .string x.name, .int .i64 x.value]
theorem LnAt.of {w : World} {b p : Nat} {x : Ln} (h : ∀ (j : Nat) (v : Value), (x.cells)[j]? = some v → w.cell? ⟨b, p + j, none⟩ = some v) : LnAt w b p x := ⟨h 0 _ rfl, h 1 _ rfl, h 2 _ rfl⟩
/-- each line is one that memory can hold -/
class Oks (l : List Ln) : Prop where h : ∀ x ∈ l, x.ok
/-- each name is short -/
class Sm (l : List Ln) : Prop where h : ∀ x ∈ l, x.name.size ≤ 1048576
/-- the slice with base A holds the lines l -/
class Lns (w : World) (A : Option Addr) (l : List Ln) : Prop extends Oks l, Rd 3 Ln.cells w A l
instance {w : World} {A : Option Addr} {l : List Ln} [h1 : Oks l] [h2 : Rd 3 Ln.cells w A l] : Lns w A l := { toOks := h1, toRd := h2 }
theorem Lns.at {w : World} {A : Option Addr} {l : List Ln} (h : Lns w A l) : 0 < l.length → ∃ b o, A = some ⟨b, o, none⟩ ∧ LtW b w ∧ ∀ (k : Nat) (h : k < l.length), LnAt w b (o + k * 3) l[k] := fun h0 => by
  obtain ⟨b, o, e, hb, hc⟩ := h.toRd.at_ h0
  exact ⟨b, o, e, hb, fun k hk => LnAt.of (hc k hk)⟩
/-- is x the label nm? -/
def isLbl (nm : ByteArray) (x : Ln) : Prop := x.kind = 1 ∧ (x.name.toList == nm.toList) = true
instance (nm : ByteArray) (x : Ln) : Decidable (isLbl nm x) := by unfold isLbl; infer_instance
/-- where the label stands first, or -1 -/
def lbl (l : List Ln) (nm : ByteArray) : Int := match l.findIdx? (fun x => decide (isLbl nm x)) with | some i => i | none => -1
theorem lbl_hit {l : List Ln} {nm : ByteArray} {k : Nat} (hk : k < l.length) (h : isLbl nm l[k]) (hb : ∀ j (hj : j < k), ¬ isLbl nm (l[j]'(by omega))) : lbl l nm = k := by
  have : l.findIdx? (fun x => decide (isLbl nm x)) = some k := by
    rw [List.findIdx?_eq_some_iff_getElem]
    exact ⟨hk, by simpa using h, fun j hj => by simpa using hb j hj⟩
  unfold lbl; rw [this]
theorem lbl_miss {l : List Ln} {nm : ByteArray} (hb : ∀ j (hj : j < l.length), ¬ isLbl nm l[j]) : lbl l nm = -1 := by
  have : l.findIdx? (fun x => decide (isLbl nm x)) = none := by
    rw [List.findIdx?_eq_none_iff]
    intro x hx
    obtain ⟨j, hj, rfl⟩ := List.getElem_of_mem hx
    simpa using hb j hj
  unfold lbl; rw [this]
section
set_option maxHeartbeats 1600000
theorem l15Label_any (A : Option Addr) (c : Nat) (l : List Ln) (nm : ByteArray) (w : World) (hl : Lns w A l) :
    Calls Tryd.prog 71 #[.slice A l.length c, .string nm] w fun e w' => e = .returned (.int .i64 (lbl l nm)) ∧ w = w' := by
  have hlen := hl.len
  have hat := hl.at
  clear hl
  have HA := hid hat
  clear hat
  go_enter Tryd.func71, Tryd.ntmps71
  go_wp2
  go_loop [5] (fun t => ∃ k : Nat, k ≤ l.length ∧ t = .int .i64 k ∧ ∀ j (hj : j < k) (hl : j < l.length), ¬ isLbl nm l[j]) (fun t => l.length - (intOf t).toNat)
  case atStart => exact ⟨0, Nat.zero_le _, rfl, fun j hj => absurd hj (by omega)⟩
  case round =>
    obtain ⟨k, hk, rfl, hb⟩ := hrel
    have HB := hid hb
    clear hb
    by_cases hlt : k < l.length
    · obtain ⟨b, o, rfl, hbw, hc⟩ := HA.out (by omega)
      have hc := hc k hlt
      by_cases hp : isLbl nm l[k]
      · have HR := hid (lbl_hit hlt hp fun j hj => HB.out j hj (by omega))
        obtain ⟨p1, p2⟩ := hp
        obtain ⟨c0, c1, c2⟩ := hc
        generalize l[k] = x at *
        go_wp2
        go_ret
        exact ⟨by rw [HR.out]; rfl, rfl⟩
      · have hnx : ∀ j (hj : j < k + 1) (hl : j < l.length), ¬ isLbl nm l[j] := fun j hj hl => by
          rcases Nat.lt_or_ge j k with h | h
          · exact HB.out j h hl
          · obtain rfl : j = k := by omega
            exact hp
        have HN := hid hnx
        obtain ⟨c0, c1, c2⟩ := hc
        have hp' : ¬ l[k].kind = 1 ∨ (l[k].kind = 1 ∧ (l[k].name.toList == nm.toList) = false) := by
          by_cases h1 : l[k].kind = 1
          · exact .inr ⟨h1, by cases h2 : (l[k].name.toList == nm.toList) with
              | true => exact absurd ⟨h1, h2⟩ hp
              | false => rfl⟩
          · exact .inl h1
        clear hnx hp
        generalize l[k] = x at *
        rcases hp' with p1 | ⟨p1, p2⟩
        all_goals
          go_wp2
          go_round
          case rel => exact ⟨k + 1, by omega, by go_num, HN.out⟩
          case measure => simp [intOf]; omega
    · go_wp2
      go_ret
      exact ⟨by rw [lbl_miss fun j hj => HB.out j (by omega) hj]; rfl, rfl⟩
end
end Go.Proofs.YtonmeffhelaohaaDoor
namespace Go.Proofs.YtonmeffhelaohaaDoor
open Go.RowKit
section
set_option maxHeartbeats 1600000
theorem clLbl_yes (x : Ln) (b : Nat) (nm : ByteArray) (w : World) [LtW b w] (hc : w.cell? ⟨b, 0, none⟩ = some (.string nm)) (h : isLbl nm x) :
    Calls Tryd.prog 78 #[.agg #[.int .i64 x.kind, .string x.name, .int .i64 x.value], .pointer (some ⟨b, 0, none⟩)] w fun e w' => e = .returned (.bool true) ∧ ∃ k : Ex w, w' = k.v := by
  obtain ⟨h1, h2⟩ := h
  go_enter Tryd.func78, Tryd.ntmps78
  go_wp2
  (go_ret; refine ⟨by first | rfl | (simp; done), ?_⟩; (refine Ok.toEx ?_; (repeat (first | (with_reducible exact Ok.rf _) | (with_reducible refine Ok.alloc ?_ _) | (with_reducible refine Ok.ex ?_ _) | (with_reducible refine Ok.drew ?_) | (with_reducible refine Ok.setCellI ?_ _ _ _) | (with_reducible refine Ok.exb ?_ _)))))
theorem clLbl_no (x : Ln) (b : Nat) (nm : ByteArray) (w : World) [LtW b w] (hc : w.cell? ⟨b, 0, none⟩ = some (.string nm)) (h : ¬ isLbl nm x) :
    Calls Tryd.prog 78 #[.agg #[.int .i64 x.kind, .string x.name, .int .i64 x.value], .pointer (some ⟨b, 0, none⟩)] w fun e w' => e = .returned (.bool false) ∧ ∃ k : Ex w, w' = k.v := by
  have hp' : ¬ x.kind = 1 ∨ (x.kind = 1 ∧ (x.name.toList == nm.toList) = false) := by
    by_cases h1 : x.kind = 1
    · exact .inr ⟨h1, by cases h2 : (x.name.toList == nm.toList) with
        | true => exact absurd ⟨h1, h2⟩ h
        | false => rfl⟩
    · exact .inl h1
  clear h
  rcases hp' with p1 | ⟨p1, p2⟩
  all_goals
    go_enter Tryd.func78, Tryd.ntmps78
    go_wp2
    (go_ret; refine ⟨by first | rfl | (simp; done), ?_⟩; (refine Ok.toEx ?_; (repeat (first | (with_reducible exact Ok.rf _) | (with_reducible refine Ok.alloc ?_ _) | (with_reducible refine Ok.ex ?_ _) | (with_reducible refine Ok.drew ?_) | (with_reducible refine Ok.setCellI ?_ _ _ _) | (with_reducible refine Ok.exb ?_ _)))))
theorem idxLbl (A : Option Addr) (c : Nat) (l : List Ln) (b' : Nat) (nm : ByteArray) (w : World) (hl : Lns w A l) [hb' : LtW b' w] (hcell : w.cell? ⟨b', 0, none⟩ = some (.string nm)) :
    Calls Tryd.prog 77 #[.slice A l.length c, .func (.func 78) #[] #[.pointer (some ⟨b', 0, none⟩)]] w fun e w' => e = .returned (.int .i64 (lbl l nm)) ∧ ∃ k : Ex w, w' = k.v := by
  have hlen := hl.len
  have hat := hl.at
  clear hl
  have HA := hid hat
  clear hat
  go_enter Tryd.func77, Tryd.ntmps77
  go_wp2
  go_loopw [8] (fun t wr => ∃ k : Nat, k ≤ l.length ∧ t = .int .i64 k ∧ (∀ j (hj : j < k) (hl : j < l.length), ¬ isLbl nm l[j]) ∧ ∃ j : Ex w, wr = j.v) (fun t _ => l.length - (intOf t).toNat)
  case atStart => exact ⟨0, Nat.zero_le _, rfl, fun j hj => absurd hj (by omega), Ex.rf w, rfl⟩
  case round =>
    obtain ⟨q, hq, rfl, hb, j0, rfl⟩ := hrel
    have HB := hid hb
    clear hb
    by_cases hlt : q < l.length
    · obtain ⟨b, o, rfl, hbw, hc⟩ := HA.out (by omega)
      have hc := hc q hlt
      obtain ⟨c0, c1, c2⟩ := hc
      by_cases hp : isLbl nm l[q]
      · have HR := hid (lbl_hit hlt hp fun j hj => HB.out j hj (by omega))
        generalize l[q] = x at *
        go_wp2_with ((go_at_call 78; refine (clLbl_yes x b' nm _ ((j0.cell _ _).trans hcell) hp).mono ?_; rintro e w' ⟨rfl, k, rfl⟩))
        go_ret
        refine ⟨by rw [HR.out]; rfl, ?_⟩
        (refine Ok.toEx ?_; (repeat (first | (with_reducible exact Ok.rf _) | (with_reducible refine Ok.alloc ?_ _) | (with_reducible refine Ok.ex ?_ _) | (with_reducible refine Ok.drew ?_) | (with_reducible refine Ok.setCellI ?_ _ _ _) | (with_reducible refine Ok.exb ?_ _))))
      · have hnx : ∀ j (hj : j < q + 1) (hl : j < l.length), ¬ isLbl nm l[j] := fun j hj hl => by
          rcases Nat.lt_or_ge j q with h | h
          · exact HB.out j h hl
          · obtain rfl : j = q := by omega
            exact hp
        have HN := hid hnx
        clear hnx
        generalize l[q] = x at *
        go_wp2_with ((go_at_call 78; refine (clLbl_no x b' nm _ ((j0.cell _ _).trans hcell) hp).mono ?_; rintro e w' ⟨rfl, k, rfl⟩))
        go_roundw
        case rel => exact ⟨q + 1, by omega, by go_num, HN.out, j0.tr k, rfl⟩
        case measure => simp [intOf]; omega
    · go_wp2
      go_ret
      exact ⟨by rw [lbl_miss fun j hj => HB.out j (by omega) hj]; rfl, j0, rfl⟩
theorem labelIndex_any (A : Option Addr) (c : Nat) (l : List Ln) (nm : ByteArray) (w : World) (hl : Lns w A l) :
    Calls Tryd.prog 58 #[.slice A l.length c, .string nm] w fun e w' => e = .returned (.int .i64 (lbl l nm)) ∧ ∃ k : Ex w, w' = k.v := by
  have HL := hid hl
  clear hl
  go_enter Tryd.func58, Tryd.ntmps58
  go_wp2_with ((go_at_call 77; refine (idxLbl A c l w.heap.size nm _ (haveI := HL.out; inferInstance) (by simp [go_sem])).mono ?_; rintro e w' ⟨rfl, k, rfl⟩))
  (go_ret; refine ⟨by first | rfl | (simp; done), ?_⟩; (refine Ok.toEx ?_; (repeat (first | (with_reducible exact Ok.rf _) | (with_reducible refine Ok.alloc ?_ _) | (with_reducible refine Ok.ex ?_ _) | (with_reducible refine Ok.drew ?_) | (with_reducible refine Ok.setCellI ?_ _ _ _) | (with_reducible refine Ok.exb ?_ _)))))
end
end Go.Proofs.YtonmeffhelaohaaDoor
namespace Go.Proofs.YtonmeffhelaohaaDoor
open Go.RowKit
section
set_option maxHeartbeats 1600000
theorem eqLine_any (x : Ln) (w : World) : Calls Tryd.prog 31 #[.agg #[.int .i64 x.kind, .string x.name, .int .i64 x.value], .agg #[.int .i64 x.kind, .string x.name, .int .i64 x.value]] w fun e w' => e = .returned (.bool true) ∧ ∃ k : Ex w, w' = k.v := by
  go_enter Tryd.func31, Tryd.ntmps31
  go_wp2
  (go_ret; refine ⟨by first | rfl | (simp; done), ?_⟩; (refine Ok.toEx ?_; (repeat (first | (with_reducible exact Ok.rf _) | (with_reducible refine Ok.alloc ?_ _) | (with_reducible refine Ok.ex ?_ _) | (with_reducible refine Ok.drew ?_) | (with_reducible refine Ok.setCellI ?_ _ _ _) | (with_reducible refine Ok.exb ?_ _)))))
end
end Go.Proofs.YtonmeffhelaohaaDoor
namespace Go.Proofs.YtonmeffhelaohaaDoor
open Go.RowKit
section
set_option maxHeartbeats 1600000
theorem infoLine : (Tryd.prog.info? 62).map (fun i => (i.zero, i.size, i.bytes)) = some (some (.agg #[.int .i64 0, .string ⟨#[]⟩, .int .i64 0]), 3, 32) := by kernel_rfl
theorem eqLineS_any (A B : Option Addr) (c d : Nat) (l : List Ln) (w : World) [hl : Lns w A l] [hm : Lns w B l] :
    Calls Tryd.prog 11 #[.slice A l.length c, .slice B l.length d] w fun e w' => e = .returned (.bool true) ∧ ∃ k : Ex w, w' = k.v := by
  have hlen := hl.len
  have HA := hid hl.at
  have HB := hid hm.at
  go_enter Tryd.func11, Tryd.ntmps11
  go_wp2
  go_loopw [5] (fun t wr => ∃ q : Nat, q ≤ l.length ∧ t = .int .i64 q ∧ ∃ j : Ex w, wr = j.v) (fun t _ => l.length - (intOf t).toNat)
  case atStart => exact ⟨0, Nat.zero_le _, rfl, Ex.rf w, rfl⟩
  case round =>
    obtain ⟨q, hq, rfl, j0, rfl⟩ := hrel
    by_cases hlt : q < l.length
    · obtain ⟨b, o, rfl, hbw, hc⟩ := HA.out (by omega)
      obtain ⟨c0, c1, c2⟩ := hc q hlt
      obtain ⟨b', o', rfl, hbw', hc'⟩ := HB.out (by omega)
      obtain ⟨d0, d1, d2⟩ := hc' q hlt
      go_wp2
      (refine wp_region_ex (by kernel_rfl) (by kernel_rfl) ?_; (repeat (go_big_quiet_step (((go_at_call 31; exact calls_ex (eqLine_any l[q] _)))))); refine wpQuiet_nil ?_; rintro _ ⟨k, rfl⟩)
      go_wp2
      go_roundw
      case rel => exact ⟨q + 1, by omega, by go_num, j0.tr k, rfl⟩
      case measure => simp [intOf]; omega
    · go_wp2
      go_ret
      exact ⟨rfl, j0, rfl⟩
end
end Go.Proofs.YtonmeffhelaohaaDoor
namespace Go.Proofs.YtonmeffhelaohaaDoor
open Go.RowKit
/-- the cells of a number -/
def iC (n : Int) : List Value := [.int .i64 n]
theorem Filling.step1 {α : Type} {e : TypeId} {f : α → List Value} {w : World} {b : Nat} {l : List α} {q : Nat} (h : Filling e 1 f w b l q) (hq : q < l.length) {v : Value} (hl : f l[q] = [v]) : Filling e 1 f (w.setCell ⟨b, q, none⟩ v) b l (q + 1) := by
  have := h.step hq (by rw [hl]; rfl)
  rw [hl, Nat.mul_one] at this
  exact this
theorem But.rf (A : Option Addr) (w : World) : But A w w := ⟨Nat.le_refl _, fun _ _ _ => rfl⟩
theorem But.set {w w' : World} {b o : Nat} (h : But (some ⟨b, o, none⟩) w w') (p : Nat) (v : Value) : But (some ⟨b, o, none⟩) w (w'.setCell ⟨b, p, none⟩ v) :=
  ⟨by rw [size_setCell']; exact h.size, fun x hx hne => by
    rw [World.setCell, Array.getElem?_modify, if_neg (fun e => hne o (by rw [show b = x from e]))]
    exact h.block x hx hne⟩
theorem But.ex {A : Option Addr} {w w' : World} (h : But A w w') (k : Ex w') : But A w k.v :=
  ⟨Nat.le_trans h.size k.size, fun x hx hne => (k.block (Nat.lt_of_lt_of_le hx h.size)).trans (h.block x hx hne)⟩
/-- the numbers that marking lays -/
def iMk (n : Nat) (k : Int) : List Int := (List.range n).map fun (i : Nat) => k + (i : Int)
theorem iMk_len (n : Nat) (k : Int) : (iMk n k).length = n := by simp [iMk]
theorem iMk_get {n : Nat} {k : Int} {i : Nat} (h : i < (iMk n k).length) : (iMk n k)[i] = k + i := by simp [iMk]
theorem Rd.i {w : World} {A : Option Addr} {l : List Int} (h : Rd 1 iC w A l) : 0 < l.length → ∃ b o, A = some ⟨b, o, none⟩ ∧ LtW b w ∧ ∀ (k : Nat) (h : k < l.length), w.cell? ⟨b, o + k, none⟩ = some (.int .i64 l[k]) := fun h0 => by
  obtain ⟨b, o, e, hb, hc⟩ := h.at_ h0
  exact ⟨b, o, e, hb, fun k hk => by have := hc k hk 0 _ rfl; rwa [Nat.mul_one] at this⟩
section
set_option maxHeartbeats 1600000
theorem infoI64 : (Tryd.prog.info? 2).map (fun i => (i.zero, i.size, i.bytes)) = some (some (.int .i64 0), 1, 8) := by kernel_rfl
end
end Go.Proofs.YtonmeffhelaohaaDoor
namespace Go.Proofs.YtonmeffhelaohaaDoor
open Go.RowKit
structure Ky where
  t : Int
  v : Int
/-- the cells of a key -/
def kC (x : Ky) : List Value := [.int .i64 x.t, .int .i64 x.v]
instance : Inhabited Ky := ⟨⟨0, 0⟩⟩
/-- is key i one that a track may have there? -/
def kAt (l : List Ky) (i : Nat) (h : i < l.length) : Prop := (0 ≤ l[i].t ∧ l[i].t ≤ 7200000) ∧ (-1000000 ≤ l[i].v ∧ l[i].v ≤ 1000000) ∧ ∀ _ : 0 < i, l[i - 1].t < l[i].t
theorem kAt_cases (l : List Ky) (i : Nat) (h : i < l.length) :
    (kAt l i h ∧ (0 ≤ l[i].t ∧ l[i].t ≤ 7200000) ∧ (-1000000 ≤ l[i].v ∧ l[i].v ≤ 1000000) ∧ (i = 0 ∨ 0 < i ∧ l[i - 1].t < l[i].t)) ∨
    (¬ kAt l i h ∧ (l[i].t < 0 ∨ 7200000 < l[i].t)) ∨
    (¬ kAt l i h ∧ (0 ≤ l[i].t ∧ l[i].t ≤ 7200000) ∧ (l[i].v < -1000000 ∨ 1000000 < l[i].v)) ∨
    (¬ kAt l i h ∧ (0 ≤ l[i].t ∧ l[i].t ≤ 7200000) ∧ (-1000000 ≤ l[i].v ∧ l[i].v ≤ 1000000) ∧ 0 < i ∧ l[i].t ≤ l[i - 1].t) := by
  unfold kAt
  by_cases h1 : 0 ≤ l[i].t ∧ l[i].t ≤ 7200000
  · by_cases h2 : -1000000 ≤ l[i].v ∧ l[i].v ≤ 1000000
    · by_cases h0 : 0 < i
      · by_cases h3 : l[i - 1].t < l[i].t
        · exact .inl ⟨⟨h1, h2, fun _ => h3⟩, h1, h2, .inr ⟨h0, h3⟩⟩
        · exact .inr (.inr (.inr ⟨fun h => h3 (h.2.2 h0), h1, h2, h0, by omega⟩))
      · exact .inl ⟨⟨h1, h2, fun h => absurd h h0⟩, h1, h2, .inl (by omega)⟩
    · exact .inr (.inr (.inl ⟨fun h => h2 h.2.1, h1, by omega⟩))
  · exact .inr (.inl ⟨fun h => h1 h.1, by omega⟩)
/-- keys of a valid track -/
def okK (l : List Ky) : Prop := (1 ≤ l.length ∧ l.length ≤ 24) ∧ ∀ i (h : i < l.length), kAt l i h
theorem okK_mono {l : List Ky} (h : okK l) : ∀ (j i : Nat) (hj : j < l.length) (hi : i < j), (l[i]'(by omega)).t < l[j].t
  | 0, _, _, hi => absurd hi (by omega)
  | j + 1, i, hj, hi => by
    have h1 : l[j].t < l[j + 1].t := (h.2 (j + 1) hj).2.2 (by omega)
    rcases Nat.lt_or_ge i j with h2 | h2
    · have := okK_mono h j i (by omega) h2
      omega
    · obtain rfl : i = j := by omega
      exact h1
open Classical in
/-- is it a track? -/
noncomputable def vT (nm : ByteArray) (l : List Ky) : Bool := decide (okN nm ∧ okK l)
open Classical in
theorem vT_yes {nm : ByteArray} {l : List Ky} (h1 : okN nm) (h2 : okK l) : vT nm l = true := decide_eq_true ⟨h1, h2⟩
open Classical in
theorem vT_of {nm : ByteArray} {l : List Ky} (h : vT nm l = true) : okN nm ∧ okK l := of_decide_eq_true h
open Classical in
theorem vT_no {nm : ByteArray} {l : List Ky} (h : ¬ (okN nm ∧ okK l)) : vT nm l = false := decide_eq_false h
open Classical in
theorem vT_not {nm : ByteArray} {l : List Ky} (h : vT nm l = false) : ¬ (okN nm ∧ okK l) := of_decide_eq_false h
/-- why a track is none -/
theorem vT_why {nm : ByteArray} {l : List Ky} (h : vT nm l = false) : ¬ okN nm ∨ (okN nm ∧ l.length < 1) ∨ (okN nm ∧ 1 ≤ l.length ∧ 24 < l.length) ∨ (okN nm ∧ 1 ≤ l.length ∧ l.length ≤ 24 ∧ ¬ ∀ i (h : i < l.length), kAt l i h) := by
  have h := vT_not h
  unfold okK at h
  by_cases h1 : okN nm
  · by_cases h2 : l.length < 1
    · exact .inr (.inl ⟨h1, h2⟩)
    · by_cases h3 : 24 < l.length
      · exact .inr (.inr (.inl ⟨h1, by omega, h3⟩))
      · exact .inr (.inr (.inr ⟨h1, by omega, by omega, fun h4 => h ⟨h1, ⟨by omega, by omega⟩, h4⟩⟩))
  · exact .inl h1
end Go.Proofs.YtonmeffhelaohaaDoor
namespace Go.Proofs.YtonmeffhelaohaaDoor
open Go.RowKit
theorem near_zero {b : Int} (h : 0 < b) : near 0 b = 0 := by
  unfold near; rw [if_neg (by omega)]; exact Int.ediv_eq_zero_of_lt (by omega) (by omega)
theorem near_mul (a : Int) {b : Int} (h : 0 < b) : near (a * b) b = a := by
  unfold near
  split
  · rename_i h1
    have : a < 0 := by
      rcases Int.lt_or_le a 0 with h2 | h2
      · exact h2
      · have := Int.mul_nonneg h2 (Int.le_of_lt h); omega
    rw [show b - 2 * (a * b) = b + (2 * b) * (-a) by rw [Int.mul_neg, Int.mul_assoc, Int.mul_comm b a]; omega, Int.add_mul_ediv_left _ _ (by omega), Int.ediv_eq_zero_of_lt (by omega) (by omega)]
    omega
  · rw [show 2 * (a * b) + b = b + (2 * b) * a by rw [Int.mul_assoc, Int.mul_comm b a]; omega, Int.add_mul_ediv_left _ _ (by omega), Int.ediv_eq_zero_of_lt (by omega) (by omega)]
    omega
/-- the value between two keys -/
def segv (a b : Ky) (t : Int) : Int := a.v + near ((b.v - a.v) * (t - a.t)) (b.t - a.t)
theorem segv_lo (a b : Ky) (h : a.t < b.t) : segv a b a.t = a.v := by
  unfold segv; rw [Int.sub_self, Int.mul_zero, near_zero (by omega)]; omega
theorem segv_hi (a b : Ky) (h : a.t < b.t) : segv a b b.t = b.v := by
  unfold segv; rw [near_mul _ (by omega)]; omega
/-- the value of keys at a time -/
def vAt (l : List Ky) (t : Int) : Int := match l.findIdx? (fun k => decide (t ≤ k.t)) with
  | none => (l.getD (l.length - 1) default).v
  | some 0 => (l.getD 0 default).v
  | some (i + 1) => segv (l.getD i default) (l.getD (i + 1) default) t
theorem ky_getD {l : List Ky} {i : Nat} (h : i < l.length) : l.getD i default = l[i] := by simp [List.getD, h]
theorem vAt_first {l : List Ky} {t : Int} (h0 : 0 < l.length) (h : t ≤ l[0].t) : vAt l t = l[0].v := by
  have : l.findIdx? (fun k => decide (t ≤ k.t)) = some 0 := by
    rw [List.findIdx?_eq_some_iff_getElem]
    exact ⟨h0, by simpa using h, fun j hj => absurd hj (by omega)⟩
  unfold vAt; rw [this]; simp only; rw [ky_getD h0]
theorem vAt_mid {l : List Ky} {t : Int} {i : Nat} (hi : i + 1 < l.length) (hb : ∀ j (hj : j < l.length), j ≤ i → l[j].t < t) (h : t ≤ l[i + 1].t) : vAt l t = segv l[i] l[i + 1] t := by
  have : l.findIdx? (fun k => decide (t ≤ k.t)) = some (i + 1) := by
    rw [List.findIdx?_eq_some_iff_getElem]
    exact ⟨hi, by simpa using h, fun j hj => by have := hb j (by omega) (by omega); simp; omega⟩
  unfold vAt; rw [this]; simp only; rw [ky_getD hi, ky_getD (by omega)]
theorem vAt_last {l : List Ky} {t : Int} (h0 : 0 < l.length) (hb : ∀ j (hj : j < l.length), l[j].t < t) : vAt l t = l[l.length - 1].v := by
  have : l.findIdx? (fun k => decide (t ≤ k.t)) = none := by
    rw [List.findIdx?_eq_none_iff]
    intro x hx
    obtain ⟨j, hj, rfl⟩ := List.getElem_of_mem hx
    have := hb j hj
    simp; omega
  unfold vAt; rw [this]; simp only; rw [ky_getD (by omega)]
/-- a list of rising keys -/
def risK (l : List Ky) : Prop := ∀ (i j : Nat) (hj : j < l.length) (h : i < j), (l[i]'(by omega)).t < l[j].t
theorem okK.ris {l : List Ky} (h : okK l) : risK l := fun i j hj hi => okK_mono h j i hj hi
theorem vAt_key {l : List Ky} (h : risK l) {i : Nat} (hi : i < l.length) : vAt l l[i].t = l[i].v := by
  cases i with
  | zero => exact vAt_first hi (Int.le_refl _)
  | succ i =>
    rw [vAt_mid hi (fun j hj h1 => h j (i + 1) hi (by omega)) (Int.le_refl _)]
    exact segv_hi _ _ (h i (i + 1) hi (by omega))
/-- as the program finds it: behind all keys up to i -/
theorem vAt_prog {l : List Ky} (h : risK l) {t : Int} {i : Nat} (hi : i + 1 < l.length) (h1 : l[i].t ≤ t) (h2 : t < l[i + 1].t) : vAt l t = segv l[i] l[i + 1] t := by
  by_cases he : l[i].t = t
  · rw [← he, vAt_key h, segv_lo _ _ (by omega)]
  · refine vAt_mid hi (fun j hj hji => ?_) (by omega)
    rcases Nat.lt_or_ge j i with h3 | h3
    · have := h j i (by omega) h3
      omega
    · obtain rfl : j = i := by omega
      omega
theorem vAt_prog_end {l : List Ky} (h : risK l) (h0 : 0 < l.length) {t : Int} (h1 : l[l.length - 1].t ≤ t) : vAt l t = l[l.length - 1].v := by
  by_cases he : l[l.length - 1].t = t
  · rw [← he, vAt_key h]
  · refine vAt_last h0 fun j hj => ?_
    rcases Nat.lt_or_ge j (l.length - 1) with h3 | h3
    · have := h j (l.length - 1) (by omega) h3
      omega
    · obtain rfl : j = l.length - 1 := by omega
      omega
end Go.Proofs.YtonmeffhelaohaaDoor
namespace Go.Proofs.YtonmeffhelaohaaDoor
open Go.RowKit
def putL : List Int → Int → List Int
  | [], n => [n]
  | x :: xs, n => if n ≤ x then (if n < x then n :: x :: xs else x :: xs) else x :: putL xs n
theorem mem_putL (x n : Int) : ∀ l : List Int, x ∈ putL l n ↔ x = n ∨ x ∈ l
  | [] => by simp [putL]
  | y :: l => by
    unfold putL
    split
    · split
      · simp
      · have : n = y := by omega
        subst this
        simp
    · have := mem_putL x n l
      simp only [List.mem_cons, this]
      constructor
      · rintro (h | h | h)
        · exact .inr (.inl h)
        · exact .inl h
        · exact .inr (.inr h)
      · rintro (h | h | h)
        · exact .inr (.inl h)
        · exact .inl h
        · exact .inr (.inr h)
theorem putL_len (n : Int) : ∀ l : List Int, (putL l n).length ≤ l.length + 1
  | [] => by simp [putL]
  | y :: l => by
    unfold putL
    have := putL_len n l
    split
    · split <;> simp
    · simp; omega
/-- what is still to come -/
def putR (b : Bool) (l : List Int) (n : Int) : List Int := if b = true then l else putL l n
theorem putR_on (l : List Int) (n : Int) {q : Nat} (h : q < l.length) : putR true (l.drop q) n = [l[q]] ++ putR true (l.drop (q + 1)) n := by
  simp only [putR, if_true]; rw [List.drop_eq_getElem_cons h]; rfl
theorem putR_lt (l : List Int) (n : Int) {q : Nat} (h : q < l.length) (h1 : n < l[q]) : putR false (l.drop q) n = [n] ++ ([l[q]] ++ putR true (l.drop (q + 1)) n) := by
  rw [List.drop_eq_getElem_cons h]
  have h2 : n ≤ l[q] := by omega
  simp [putR, putL, h1, h2]
theorem putR_eq (l : List Int) (n : Int) {q : Nat} (h : q < l.length) (h1 : n = l[q]) : putR false (l.drop q) n = [l[q]] ++ putR true (l.drop (q + 1)) n := by
  rw [List.drop_eq_getElem_cons h]
  subst h1
  simp [putR, putL]
theorem putR_gt (l : List Int) (n : Int) {q : Nat} (h : q < l.length) (h1 : l[q] < n) : putR false (l.drop q) n = [l[q]] ++ putR false (l.drop (q + 1)) n := by
  rw [List.drop_eq_getElem_cons h]
  have h2 : ¬ n ≤ l[q] := by omega
  simp [putR, putL, h2]
section
set_option maxHeartbeats 3200000
end
end Go.Proofs.YtonmeffhelaohaaDoor
