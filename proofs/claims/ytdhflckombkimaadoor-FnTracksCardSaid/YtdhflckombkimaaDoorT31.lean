/-
  TrackText: both, and its law. Conditions: those typed at each theorem.
-/
import Derived.Test.YtdhflckombkimaaDoorT18
import Derived.Test.YtdhflckombkimaaDoorT12
import Derived.Test.YtdhflckombkimaaDoorT22
import Derived.Test.YtdhflckombkimaaDoorT28
import Derived.BigQuiet
namespace Go.Proofs.YtdhflckombkimaaDoor
open Go.RowKit
theorem bszK (a : Array UInt8) : (⟨a⟩ : ByteArray).size = a.size := rfl
/-- a key as text -/
def kyS (x : Ky) : ByteArray := (⟨#[32]⟩ : ByteArray) ++ decS x.t ++ ⟨#[58]⟩ ++ decS x.v
/-- the text of a track, with its first q keys -/
def trX (nm : ByteArray) (l : List Ky) : Nat → ByteArray
  | 0 => nm
  | q + 1 => trX nm l q ++ kyS (kyG l q)
noncomputable def trXR (nm : ByteArray) (l : List Ky) : ByteArray := if vT nm l = true then trX nm l l.length else ⟨#[]⟩
theorem kyS_size {x : Ky} (h : -1000000 ≤ x.t ∧ x.t ≤ 7200000) (h2 : -1000000 ≤ x.v ∧ x.v ≤ 1000000) : (kyS x).size ≤ 62 := by
  have h3 := decS_size (n := x.t) (by omega) (by omega)
  have h4 := decS_size (n := x.v) (by omega) (by omega)
  unfold kyS
  simp only [ByteArray.size_append, bszK, List.size_toArray, List.length_cons, List.length_nil]
  omega
theorem trX_size {nm : ByteArray} {l : List Ky} (h : ∀ q, q < l.length → (kyS (kyG l q)).size ≤ 62) : ∀ q, q ≤ l.length → (trX nm l q).size ≤ nm.size + q * 62
  | 0, _ => by simp [trX]
  | q + 1, hq => by
    have h1 := trX_size (nm := nm) h q (by omega)
    have h2 := h q (by omega)
    rw [trX, ByteArray.size_append]
    omega
section
set_option maxHeartbeats 3200000
set_option maxRecDepth 20000
theorem itrx_any (nm : ByteArray) (A : Option Addr) (c : Nat) (l : List Ky) (w : World) [Tb w] [hl : Rd 2 kC w A l] (hs : nm.size ≤ maxLen) (hn : l.length ≤ 1048576) {R : ByteArray} (hR : trXR nm l = R) :
    Calls Tryd.prog 31 #[.agg #[.string nm, .slice A l.length c]] w fun e w' => e = .returned (.string R) ∧ ∃ k : Ex w, w' = k.v := by
  subst hR
  cases hv : vT nm l
  · have HR : Hid (trXR nm l = ⟨#[]⟩) := hid (by unfold trXR; rw [hv]; rfl)
    go_enter Tryd.func31, Tryd.ntmps31
    go_wp2_with ((go_at_call 43; (with_reducible refine (iVT_any nm _ _ l _ hs hn).mono ?_); rw [hv]; rintro e w' ⟨rfl, k, rfl⟩))
    go_ret
    exact ⟨by rw [HR.out]; rfl, by (refine Ok.toEx ?_; (repeat (first | (with_reducible exact Ok.rf _) | (with_reducible refine Ok.alloc ?_ _) | (with_reducible refine Ok.ex ?_ _) | (with_reducible refine Ok.drew ?_) | (with_reducible refine Ok.setCellI ?_ _ _ _) | (with_reducible refine Ok.exb ?_ _))))⟩
  · have HR : Hid (trXR nm l = trX nm l l.length) := hid (by unfold trXR; rw [if_pos hv])
    obtain ⟨hon, hok⟩ := vT_of hv
    have hns : nm.size ≤ 1000 := Nat.le_trans hon.1 (by omega)
    have hkk := hok.vk
    obtain ⟨hk1, hk2⟩ := hkk.n
    have HK := hid hkk
    have HS := hid (trX_size (nm := nm) (l := l) fun q hq => by have h := HK.out.kg q hq; exact kyS_size ⟨by omega, by omega⟩ ⟨by omega, by omega⟩)
    have HA := hid hl.kg
    clear hkk
    go_enter Tryd.func31, Tryd.ntmps31
    go_wp2_with ((go_at_call 43; (with_reducible refine (iVT_any nm _ _ l _ hs hn).mono ?_); rw [hv]; rintro e w' ⟨rfl, k, rfl⟩))
    clear hv
    go_loopw [3, 14] (fun v t wr => ∃ q : Nat, q ≤ l.length ∧ t = .int .i64 q ∧ v = .string (trX nm l q) ∧ ∃ j : Ex k.v, wr = j.v) (fun _ t _ => l.length - (intOf t).toNat)
    case atStart => exact ⟨0, Nat.zero_le _, rfl, rfl, Ex.rf _, rfl⟩
    case round =>
      obtain ⟨q, hq, rfl, rfl, j0, rfl⟩ := hrel
      have hz1 : (0 : Int) ≤ (q : Int) := by omega
      have hT := HS.out q hq
      by_cases hlt : q < l.length
      · obtain ⟨b', o', rfl, hbw, hca⟩ := HA.out (by omega)
        obtain ⟨c0, c1⟩ := hca q hlt
        clear hca
        obtain ⟨⟨hx1, hx2⟩, ⟨hx3, hx4⟩⟩ := HK.out.kg q hlt
        have HU : Hid (trX nm l (q + 1) = trX nm l q ++ kyS (kyG l q)) := hid rfl
        generalize kyG l q = x at *
        generalize trX nm l q = T at *
        have hz2 : (q : Int) < (l.length : Int) := by omega
        (have q1 := decS_size (n := x.t) (by omega) (by omega); have q2 := decS_size (n := x.v) (by omega) (by omega); have f1 := sadd (P := Tryd.prog) ⟨#[32]⟩ (decS x.t) (by simp only [ByteArray.size_append, bszK, List.size_toArray, List.length_cons, List.length_nil]; omega); have f2 := sadd (P := Tryd.prog) (⟨#[32]⟩ ++ decS x.t) ⟨#[58]⟩ (by simp only [ByteArray.size_append, bszK, List.size_toArray, List.length_cons, List.length_nil]; omega); have f3 := sadd (P := Tryd.prog) (⟨#[32]⟩ ++ decS x.t ++ ⟨#[58]⟩) (decS x.v) (by simp only [ByteArray.size_append, bszK, List.size_toArray, List.length_cons, List.length_nil]; omega); have f4 := sadd (P := Tryd.prog) T (⟨#[32]⟩ ++ decS x.t ++ ⟨#[58]⟩ ++ decS x.v) (by simp only [ByteArray.size_append, bszK, List.size_toArray, List.length_cons, List.length_nil]; omega))
        go_wp2_with (fail)
        (refine wp_region_ex (by kernel_rfl) (by kernel_rfl) ?_; (repeat (go_big_quiet_step (((go_at_call 58; exact calls_ex (idec_any _ _ (by omega) (by omega))))))); refine wpQuiet_nil ?_; rintro _ ⟨k, rfl⟩)
        go_wp2
        go_roundw
        case rel => exact ⟨q + 1, by omega, by go_num, by rw [HU.out]; rfl, by (refine Ok.toEx ?_; (repeat (first | (with_reducible exact Ok.rf _) | (with_reducible refine Ok.alloc ?_ _) | (with_reducible refine Ok.ex ?_ _) | (with_reducible refine Ok.drew ?_) | (with_reducible refine Ok.setCellI ?_ _ _ _) | (with_reducible refine Ok.exb ?_ _))))⟩
        case measure => simp [intOf]; omega
      · obtain rfl : q = l.length := by omega
        go_wp2
        go_ret
        exact ⟨by rw [HR.out]; rfl, by (refine Ok.toEx ?_; (repeat (first | (with_reducible exact Ok.rf _) | (with_reducible refine Ok.alloc ?_ _) | (with_reducible refine Ok.ex ?_ _) | (with_reducible refine Ok.drew ?_) | (with_reducible refine Ok.setCellI ?_ _ _ _) | (with_reducible refine Ok.exb ?_ _))))⟩
end
end Go.Proofs.YtdhflckombkimaaDoor
