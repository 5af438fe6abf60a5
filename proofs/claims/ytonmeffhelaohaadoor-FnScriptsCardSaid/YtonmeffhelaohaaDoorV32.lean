/-
  ScriptText: both, and its law. Conditions: those typed at each theorem.
-/
import Derived.Test.YtonmeffhelaohaaDoorV8
import Derived.Test.YtonmeffhelaohaaDoorV29
import Derived.Test.YtonmeffhelaohaaDoorV30
import Derived.Test.YtonmeffhelaohaaDoorV9
import Derived.BigQuiet
namespace Go.Proofs.YtonmeffhelaohaaDoor
open Go.RowKit
theorem bszL (a : Array UInt8) : (⟨a⟩ : ByteArray).size = a.size := rfl
/-- a line as text -/
def lnB (x : Ln) : ByteArray := if x.kind = 1 then (⟨#[108, 97, 98, 101, 108, 32]⟩ : ByteArray) ++ x.name else if x.kind = 2 then (⟨#[119, 97, 105, 116, 32]⟩ : ByteArray) ++ decS x.value else if x.kind = 3 then (⟨#[102, 105, 114, 101, 32]⟩ : ByteArray) ++ x.name else if x.kind = 4 then (⟨#[106, 117, 109, 112, 32]⟩ : ByteArray) ++ x.name ++ ⟨#[32]⟩ ++ decS x.value else ⟨#[101, 110, 100]⟩
/-- the text of the first q lines -/
def scX (l : List Ln) : Nat → ByteArray
  | 0 => ⟨#[]⟩
  | q + 1 => match l[q]? with
    | some x => scX l q ++ lnB x ++ ⟨#[10]⟩
    | none => scX l q
theorem scX_succ {l : List Ln} {q : Nat} (h : q < l.length) : scX l (q + 1) = scX l q ++ lnB l[q] ++ ⟨#[10]⟩ := by
  conv => lhs; unfold scX
  rw [List.getElem?_eq_getElem h]
noncomputable def scXR (l : List Ln) : ByteArray := if vL l = true then scX l l.length else ⟨#[]⟩
/-- a valid line, by its kind -/
theorem vOne_kind {x : Ln} (h : vOne x = true) : (x.kind = 1 ∧ x.name.size ≤ 10) ∨ (x.kind = 2 ∧ 1 ≤ x.value ∧ x.value ≤ 7200000) ∨ (x.kind = 3 ∧ x.name.size ≤ 10) ∨ (x.kind = 4 ∧ x.name.size ≤ 10 ∧ 1 ≤ x.value ∧ x.value ≤ 100) ∨ x.kind = 5 := by
  rcases vOne_cases x with ⟨a, b⟩ | ⟨a, b⟩ | ⟨a, b⟩ | ⟨a, b⟩ | ⟨a, b⟩ | b
  · rcases b with b | b | b
    · exact .inl ⟨a, b.2.1.1⟩
    · rw [h] at b; cases b.1
    · rw [h] at b; cases b.1
  · rcases b with b | b | b
    · exact .inr (.inr (.inl ⟨a, b.2.1.1⟩))
    · rw [h] at b; cases b.1
    · rw [h] at b; cases b.1
  · rcases b with b | b | b
    · exact .inr (.inl ⟨a, b.2.2.2.1, b.2.2.2.2⟩)
    · rw [h] at b; cases b.1
    · rw [h] at b; cases b.1
  · rcases b with b | b | b
    · exact .inr (.inr (.inr (.inl ⟨a, b.2.1.1, b.2.2.1, b.2.2.2⟩)))
    · rw [h] at b; cases b.1
    · rw [h] at b; cases b.1
  · exact .inr (.inr (.inr (.inr a)))
  · rw [h] at b; cases b.1
theorem vL_ofX {l : List Ln} (h : vL l = true) : okL l := by
  by_cases hk : okL l
  · exact hk
  · rw [vL_no hk] at h; cases h
theorem lnB_size {x : Ln} (h : vOne x = true) : (lnB x).size ≤ 60 := by
  unfold lnB
  rcases vOne_kind h with ⟨a, b⟩ | ⟨a, b, c⟩ | ⟨a, b⟩ | ⟨a, b, c, d⟩ | a
  · rw [if_pos a]; simp only [ByteArray.size_append, bszL, List.size_toArray, List.length_cons, List.length_nil]; omega
  · have h3 := decS_size (n := x.value) (by omega) (by omega)
    rw [if_neg (by omega), if_pos a]; simp only [ByteArray.size_append, bszL, List.size_toArray, List.length_cons, List.length_nil]; omega
  · rw [if_neg (by omega), if_neg (by omega), if_pos a]; simp only [ByteArray.size_append, bszL, List.size_toArray, List.length_cons, List.length_nil]; omega
  · have h3 := decS_size (n := x.value) (by omega) (by omega)
    rw [if_neg (by omega), if_neg (by omega), if_neg (by omega), if_pos a]; simp only [ByteArray.size_append, bszL, List.size_toArray, List.length_cons, List.length_nil]; omega
  · rw [if_neg (by omega), if_neg (by omega), if_neg (by omega), if_neg (by omega)]; simp [bszL]
theorem scX_size {l : List Ln} (h : okL l) : ∀ q, q ≤ l.length → (scX l q).size ≤ q * 61
  | 0, _ => by simp [scX, bszL]
  | q + 1, hq => by
    have h1 := scX_size h q (by omega)
    have h2 := lnB_size (h.2 q (by omega)).1
    rw [scX_succ (by omega)]
    simp only [ByteArray.size_append, bszL, List.size_toArray, List.length_cons, List.length_nil]
    omega
/-- a builder that holds the bytes of T -/
class Bd (B b : Nat) (T : ByteArray) (w : World) : Prop where h : Lib.IsBuilder 79 5 B b (Lib.strCells T) w
theorem bd_cong {T e : TypeId} {B b : Nat} {p : Value} {bs : List Value} {w w' : World} (h : Lib.BuilderAt T e B b p bs w) (hb : ∀ g, g < w.heap.size → w'.heap[g]? = w.heap[g]?) : Lib.BuilderAt T e B b p bs w' := by
  have hlt := h.lt
  obtain ⟨h1, v, h2, h3, h4⟩ := h
  exact ⟨h1, v, by rw [hb b hlt]; exact h2, ownsRow_congr h3 fun g hg => hb g (h3.lt g hg).2, h4⟩
theorem Bd.cong {B b : Nat} {T : ByteArray} {w w' : World} (h : Bd B b T w) (hb : ∀ g, g < w.heap.size → w'.heap[g]? = w.heap[g]?) : Bd B b T w' :=
  ⟨h.h.elim (fun x => .inl (bd_cong x hb)) (fun x => .inr (bd_cong x hb))⟩
instance (priority := 900) Bd.ex {B b : Nat} {T : ByteArray} {w : World} [h : Bd B b T w] (k : Ex w) : Bd B b T k.v := h.cong fun g hg => k.block hg
instance (priority := 900) Bd.alloc {B b : Nat} {T : ByteArray} {w : World} [h : Bd B b T w] (o : Obj) : Bd B b T (w.alloc o) := h.cong fun g hg => Below.heap_alloc _ _ _ hg
instance (priority := 900) Bd.drew {B b : Nat} {T : ByteArray} {w : World} [h : Bd B b T w] : Bd B b T w.drew := h.cong fun g hg => rfl
section
set_option maxHeartbeats 3200000
set_option maxRecDepth 20000
theorem wsB_any (B b : Nat) (T s : ByteArray) (w : World) [h : Bd B b T w] (h1 : T.size ≤ 1000000) (h2 : s.size ≤ 1000000) (hB : B ≤ w.heap.size) :
    Calls Tryd.prog 36 #[.pointer (some ⟨b, 0, none⟩), .string s] w fun e w' => e = .returned (.tuple #[.int .i64 s.size, .nilIface]) ∧ ∃ k : Exb B w, w' = k.v ∧ Bd B b (T ++ s) k.v := by
  refine (ws_any B b (Lib.strCells T) s w h.h (by rw [Lib.strCells_length]; omega) hB).mono ?_
  rintro e w' ⟨rfl, h3, h4⟩
  refine ⟨rfl, ⟨w', h4⟩, rfl, ⟨.inr ?_⟩⟩
  have : Lib.strCells (T ++ s) = Lib.strCells T ++ Lib.strCells s := by simp [Lib.strCells]
  rw [this]
  exact h3
theorem strB_any (B b : Nat) (T : ByteArray) (w : World) [h : Bd B b T w] (hB : B ≤ w.heap.size) :
    Calls Tryd.prog 38 #[.pointer (some ⟨b, 0, none⟩)] w fun e w' => e = .returned (.string T) ∧ ∃ k : Exb B w, w' = k.v := by
  refine (Tryd.Builder_String_any B b T.data.toList w h.h hB).mono ?_
  rintro e w' ⟨rfl, h2⟩
  exact ⟨rfl, ⟨w', h2⟩, rfl⟩
theorem iscx_any (A : Option Addr) (c : Nat) (l : List Ln) (w : World) [Tb w] [hl : Lns w A l] (hcap : l.length ≤ c) (hn : l.length ≤ 1048576) {R : ByteArray} (hR : scXR l = R) :
    Calls Tryd.prog 18 #[.slice A l.length c] w fun e w' => e = .returned (.string R) ∧ ∃ k : Ex w, w' = k.v := by
  subst hR
  cases hv : vL l
  · have HR : Hid (scXR l = ⟨#[]⟩) := hid (by unfold scXR; rw [hv]; rfl)
    go_enter Tryd.func18, Tryd.ntmps18
    go_wp2_with (go_at_call 30; refine (iValid_any _ _ l _ hcap hn).mono ?_; rw [hv]; rintro e w' ⟨rfl, k, rfl⟩)
    go_ret
    exact ⟨by rw [HR.out]; rfl, by (refine Ok.toEx ?_; (repeat (first | (with_reducible exact Ok.rf _) | (with_reducible refine Ok.alloc ?_ _) | (with_reducible refine Ok.ex ?_ _) | (with_reducible refine Ok.drew ?_) | (with_reducible refine Ok.setCellI ?_ _ _ _) | (with_reducible refine Ok.exb ?_ _))))⟩
  · have HR : Hid (scXR l = scX l l.length) := hid (by unfold scXR; rw [if_pos hv])
    have hk := vL_ofX hv
    have h40 := hk.1
    have HS := hid (scX_size hk)
    have HK := hid hk
    have HA := hid hl.at
    clear hk
    go_enter Tryd.func18, Tryd.ntmps18
    go_wp2_with (go_at_call 30; refine (iValid_any _ _ l _ hcap hn).mono ?_; rw [hv]; rintro e w' ⟨rfl, k, rfl⟩)
    clear hv
    have hb0 : Bd k.v.heap.size k.v.heap.size ⟨#[]⟩ (k.v.alloc (.cells #[.pointer none, .slice none 0 0] 79)) := ⟨.inl ⟨Nat.le_refl _, .slice none 0 0, heap_alloc_new _ _, ⟨rfl, .inl ⟨rfl, rfl⟩⟩, by intro h; cases h⟩⟩
    have HB0 := hid hb0
    clear hb0
    go_loopw [11] (fun t wr => ∃ q : Nat, q ≤ l.length ∧ t = .int .i64 q ∧ ∃ j : Ex k.v, wr = j.v ∧ Bd k.v.heap.size k.v.heap.size (scX l q) j.v) (fun t _ => l.length - (intOf t).toNat)
    case atStart => exact ⟨0, Nat.zero_le _, rfl, ex_and (fun W => Bd k.v.heap.size k.v.heap.size (scX l 0) W) (by (refine Ok.toEx ?_; (repeat (first | (with_reducible exact Ok.rf _) | (with_reducible refine Ok.alloc ?_ _) | (with_reducible refine Ok.ex ?_ _) | (with_reducible refine Ok.drew ?_) | (with_reducible refine Ok.setCellI ?_ _ _ _) | (with_reducible refine Ok.exb ?_ _))))) HB0.out⟩
    case round =>
      obtain ⟨q, hq, rfl, j0, rfl, hbd⟩ := hrel
      haveI hbd' := hbd
      have hz1 : (0 : Int) ≤ (q : Int) := by omega
      have hT := HS.out q hq
      by_cases hlt : q < l.length
      · obtain ⟨b', o', rfl, hbw, hca⟩ := HA.out (by omega)
        obtain ⟨c0, c1, c2⟩ := hca q hlt
        clear hca
        have hv1 := (HK.out.2 q hlt).1
        have HU := hid (scX_succ hlt)
        generalize l[q] = x at *
        generalize scX l q = T at *
        have hz2 : (q : Int) < (l.length : Int) := by omega
        obtain ⟨kd, nm, vl⟩ := x
        rcases vOne_kind hv1 with ⟨a, hb⟩ | ⟨a, hb, hc⟩ | ⟨a, hb⟩ | ⟨a, hb, hc, hd⟩ | a
        · dsimp only at *
          subst a
          clear hv1
          have f1 := sadd (P := Tryd.prog) ⟨#[108, 97, 98, 101, 108, 32]⟩ nm (by simp only [ByteArray.size_append, bszL, List.size_toArray, List.length_cons, List.length_nil]; omega)
          have HL : Hid (lnB ⟨1, nm, vl⟩ = ⟨#[108, 97, 98, 101, 108, 32]⟩ ++ nm) := hid rfl
          go_wp2_with (first | (go_at_call 36; go_loud ((with_reducible refine (wsB_any (h := ?_) k.v.heap.size k.v.heap.size T (⟨#[108, 97, 98, 101, 108, 32]⟩ ++ nm) _ ?_ ?_ ?_).mono ?_); (· infer_instance); (· ((try simp only [ByteArray.size_append, bszL, List.size_toArray, List.length_cons, List.length_nil]); omega)); (· ((try simp only [ByteArray.size_append, bszL, List.size_toArray, List.length_cons, List.length_nil]); omega)); (· exact LeB.h); rintro e w' ⟨rfl, k1, rfl, hb1⟩)) | (go_at_call 36; go_loud ((with_reducible refine (wsB_any (h := ?_) k.v.heap.size k.v.heap.size (T ++ (⟨#[108, 97, 98, 101, 108, 32]⟩ ++ nm)) ⟨#[10]⟩ _ ?_ ?_ ?_).mono ?_); (· infer_instance); (· ((try simp only [ByteArray.size_append, bszL, List.size_toArray, List.length_cons, List.length_nil]); omega)); (· ((try simp only [ByteArray.size_append, bszL, List.size_toArray, List.length_cons, List.length_nil]); omega)); (· exact LeB.h); rintro e w' ⟨rfl, k2, rfl, hb2⟩)))
          go_roundw
          case rel => exact ⟨q + 1, by omega, by go_num, ex_and (fun W => Bd k.v.heap.size k.v.heap.size (scX l (q + 1)) W) (by (refine Ok.toEx ?_; (repeat (first | (with_reducible exact Ok.rf _) | (with_reducible refine Ok.alloc ?_ _) | (with_reducible refine Ok.ex ?_ _) | (with_reducible refine Ok.drew ?_) | (with_reducible refine Ok.setCellI ?_ _ _ _) | (with_reducible refine Ok.exb ?_ _))))) (by rw [HU.out, HL.out]; infer_instance)⟩
          case measure => simp [intOf]; omega
        · dsimp only at *
          subst a
          clear hv1
          have q1 := decS_size (n := vl) (by omega) (by omega)
          have f1 := sadd (P := Tryd.prog) ⟨#[119, 97, 105, 116, 32]⟩ (decS vl) (by simp only [ByteArray.size_append, bszL, List.size_toArray, List.length_cons, List.length_nil]; omega)
          have HL : Hid (lnB ⟨2, nm, vl⟩ = ⟨#[119, 97, 105, 116, 32]⟩ ++ decS vl) := hid rfl
          go_wp2_with (first | (go_at_call 37; refine (idec_any _ _ (by omega) (by omega)).mono ?_; rintro e w' ⟨rfl, kd, rfl⟩) | (go_at_call 36; go_loud ((with_reducible refine (wsB_any (h := ?_) k.v.heap.size k.v.heap.size T (⟨#[119, 97, 105, 116, 32]⟩ ++ decS vl) _ ?_ ?_ ?_).mono ?_); (· infer_instance); (· ((try simp only [ByteArray.size_append, bszL, List.size_toArray, List.length_cons, List.length_nil]); omega)); (· ((try simp only [ByteArray.size_append, bszL, List.size_toArray, List.length_cons, List.length_nil]); omega)); (· exact LeB.h); rintro e w' ⟨rfl, k1, rfl, hb1⟩)) | (go_at_call 36; go_loud ((with_reducible refine (wsB_any (h := ?_) k.v.heap.size k.v.heap.size (T ++ (⟨#[119, 97, 105, 116, 32]⟩ ++ decS vl)) ⟨#[10]⟩ _ ?_ ?_ ?_).mono ?_); (· infer_instance); (· ((try simp only [ByteArray.size_append, bszL, List.size_toArray, List.length_cons, List.length_nil]); omega)); (· ((try simp only [ByteArray.size_append, bszL, List.size_toArray, List.length_cons, List.length_nil]); omega)); (· exact LeB.h); rintro e w' ⟨rfl, k2, rfl, hb2⟩)))
          go_roundw
          case rel => exact ⟨q + 1, by omega, by go_num, ex_and (fun W => Bd k.v.heap.size k.v.heap.size (scX l (q + 1)) W) (by (refine Ok.toEx ?_; (repeat (first | (with_reducible exact Ok.rf _) | (with_reducible refine Ok.alloc ?_ _) | (with_reducible refine Ok.ex ?_ _) | (with_reducible refine Ok.drew ?_) | (with_reducible refine Ok.setCellI ?_ _ _ _) | (with_reducible refine Ok.exb ?_ _))))) (by rw [HU.out, HL.out]; infer_instance)⟩
          case measure => simp [intOf]; omega
        · dsimp only at *
          subst a
          clear hv1
          have f1 := sadd (P := Tryd.prog) ⟨#[102, 105, 114, 101, 32]⟩ nm (by simp only [ByteArray.size_append, bszL, List.size_toArray, List.length_cons, List.length_nil]; omega)
          have HL : Hid (lnB ⟨3, nm, vl⟩ = ⟨#[102, 105, 114, 101, 32]⟩ ++ nm) := hid rfl
          go_wp2_with (first | (go_at_call 36; go_loud ((with_reducible refine (wsB_any (h := ?_) k.v.heap.size k.v.heap.size T (⟨#[102, 105, 114, 101, 32]⟩ ++ nm) _ ?_ ?_ ?_).mono ?_); (· infer_instance); (· ((try simp only [ByteArray.size_append, bszL, List.size_toArray, List.length_cons, List.length_nil]); omega)); (· ((try simp only [ByteArray.size_append, bszL, List.size_toArray, List.length_cons, List.length_nil]); omega)); (· exact LeB.h); rintro e w' ⟨rfl, k1, rfl, hb1⟩)) | (go_at_call 36; go_loud ((with_reducible refine (wsB_any (h := ?_) k.v.heap.size k.v.heap.size (T ++ (⟨#[102, 105, 114, 101, 32]⟩ ++ nm)) ⟨#[10]⟩ _ ?_ ?_ ?_).mono ?_); (· infer_instance); (· ((try simp only [ByteArray.size_append, bszL, List.size_toArray, List.length_cons, List.length_nil]); omega)); (· ((try simp only [ByteArray.size_append, bszL, List.size_toArray, List.length_cons, List.length_nil]); omega)); (· exact LeB.h); rintro e w' ⟨rfl, k2, rfl, hb2⟩)))
          go_roundw
          case rel => exact ⟨q + 1, by omega, by go_num, ex_and (fun W => Bd k.v.heap.size k.v.heap.size (scX l (q + 1)) W) (by (refine Ok.toEx ?_; (repeat (first | (with_reducible exact Ok.rf _) | (with_reducible refine Ok.alloc ?_ _) | (with_reducible refine Ok.ex ?_ _) | (with_reducible refine Ok.drew ?_) | (with_reducible refine Ok.setCellI ?_ _ _ _) | (with_reducible refine Ok.exb ?_ _))))) (by rw [HU.out, HL.out]; infer_instance)⟩
          case measure => simp [intOf]; omega
        · dsimp only at *
          subst a
          clear hv1
          have q1 := decS_size (n := vl) (by omega) (by omega)
          have f1 := sadd (P := Tryd.prog) ⟨#[106, 117, 109, 112, 32]⟩ nm (by simp only [ByteArray.size_append, bszL, List.size_toArray, List.length_cons, List.length_nil]; omega)
          have f2 := sadd (P := Tryd.prog) (⟨#[106, 117, 109, 112, 32]⟩ ++ nm) ⟨#[32]⟩ (by simp only [ByteArray.size_append, bszL, List.size_toArray, List.length_cons, List.length_nil]; omega)
          have f3 := sadd (P := Tryd.prog) (⟨#[106, 117, 109, 112, 32]⟩ ++ nm ++ ⟨#[32]⟩) (decS vl) (by simp only [ByteArray.size_append, bszL, List.size_toArray, List.length_cons, List.length_nil]; omega)
          have HL : Hid (lnB ⟨4, nm, vl⟩ = ⟨#[106, 117, 109, 112, 32]⟩ ++ nm ++ ⟨#[32]⟩ ++ decS vl) := hid rfl
          go_wp2_with (fail)
          (refine wp_region_ex_tail 8 (by kernel_rfl) (by kernel_rfl) ?_; simp only [List.take_succ_cons, List.take_zero, List.drop_succ_cons, List.drop_zero]; (repeat (go_big_quiet_step (((go_at_call 37; exact calls_ex (idec_any _ _ (by omega) (by omega))))))); refine wpQuiet_nil ?_; intro kq)
          go_wp2_with (first | (go_at_call 36; go_loud ((with_reducible refine (wsB_any (h := ?_) k.v.heap.size k.v.heap.size T (⟨#[106, 117, 109, 112, 32]⟩ ++ nm ++ ⟨#[32]⟩ ++ decS vl) _ ?_ ?_ ?_).mono ?_); (· infer_instance); (· ((try simp only [ByteArray.size_append, bszL, List.size_toArray, List.length_cons, List.length_nil]); omega)); (· ((try simp only [ByteArray.size_append, bszL, List.size_toArray, List.length_cons, List.length_nil]); omega)); (· exact LeB.h); rintro e w' ⟨rfl, k1, rfl, hb1⟩)) | (go_at_call 36; go_loud ((with_reducible refine (wsB_any (h := ?_) k.v.heap.size k.v.heap.size (T ++ (⟨#[106, 117, 109, 112, 32]⟩ ++ nm ++ ⟨#[32]⟩ ++ decS vl)) ⟨#[10]⟩ _ ?_ ?_ ?_).mono ?_); (· infer_instance); (· ((try simp only [ByteArray.size_append, bszL, List.size_toArray, List.length_cons, List.length_nil]); omega)); (· ((try simp only [ByteArray.size_append, bszL, List.size_toArray, List.length_cons, List.length_nil]); omega)); (· exact LeB.h); rintro e w' ⟨rfl, k2, rfl, hb2⟩)))
          go_roundw
          case rel => exact ⟨q + 1, by omega, by go_num, ex_and (fun W => Bd k.v.heap.size k.v.heap.size (scX l (q + 1)) W) (by (refine Ok.toEx ?_; (repeat (first | (with_reducible exact Ok.rf _) | (with_reducible refine Ok.alloc ?_ _) | (with_reducible refine Ok.ex ?_ _) | (with_reducible refine Ok.drew ?_) | (with_reducible refine Ok.setCellI ?_ _ _ _) | (with_reducible refine Ok.exb ?_ _))))) (by rw [HU.out, HL.out]; infer_instance)⟩
          case measure => simp [intOf]; omega
        · dsimp only at *
          subst a
          clear hv1
          have HL : Hid (lnB ⟨5, nm, vl⟩ = ⟨#[101, 110, 100]⟩) := hid rfl
          go_wp2_with (first | (go_at_call 36; go_loud ((with_reducible refine (wsB_any (h := ?_) k.v.heap.size k.v.heap.size T (⟨#[101, 110, 100]⟩) _ ?_ ?_ ?_).mono ?_); (· infer_instance); (· ((try simp only [ByteArray.size_append, bszL, List.size_toArray, List.length_cons, List.length_nil]); omega)); (· ((try simp only [ByteArray.size_append, bszL, List.size_toArray, List.length_cons, List.length_nil]); omega)); (· exact LeB.h); rintro e w' ⟨rfl, k1, rfl, hb1⟩)) | (go_at_call 36; go_loud ((with_reducible refine (wsB_any (h := ?_) k.v.heap.size k.v.heap.size (T ++ (⟨#[101, 110, 100]⟩)) ⟨#[10]⟩ _ ?_ ?_ ?_).mono ?_); (· infer_instance); (· ((try simp only [ByteArray.size_append, bszL, List.size_toArray, List.length_cons, List.length_nil]); omega)); (· ((try simp only [ByteArray.size_append, bszL, List.size_toArray, List.length_cons, List.length_nil]); omega)); (· exact LeB.h); rintro e w' ⟨rfl, k2, rfl, hb2⟩)))
          go_roundw
          case rel => exact ⟨q + 1, by omega, by go_num, ex_and (fun W => Bd k.v.heap.size k.v.heap.size (scX l (q + 1)) W) (by (refine Ok.toEx ?_; (repeat (first | (with_reducible exact Ok.rf _) | (with_reducible refine Ok.alloc ?_ _) | (with_reducible refine Ok.ex ?_ _) | (with_reducible refine Ok.drew ?_) | (with_reducible refine Ok.setCellI ?_ _ _ _) | (with_reducible refine Ok.exb ?_ _))))) (by rw [HU.out, HL.out]; infer_instance)⟩
          case measure => simp [intOf]; omega
      · obtain rfl : q = l.length := by omega
        go_wp2_with (go_at_call 38; go_loud ((refine (strB_any (h := ?_) k.v.heap.size k.v.heap.size (scX l l.length) _ ?_).mono ?_); (· infer_instance); (· exact LeB.h); rintro e w' ⟨rfl, k1, rfl⟩))
        go_ret
        exact ⟨by rw [HR.out]; rfl, by (refine Ok.toEx ?_; (repeat (first | (with_reducible exact Ok.rf _) | (with_reducible refine Ok.alloc ?_ _) | (with_reducible refine Ok.ex ?_ _) | (with_reducible refine Ok.drew ?_) | (with_reducible refine Ok.setCellI ?_ _ _ _) | (with_reducible refine Ok.exb ?_ _))))⟩
end
end Go.Proofs.YtonmeffhelaohaaDoor
