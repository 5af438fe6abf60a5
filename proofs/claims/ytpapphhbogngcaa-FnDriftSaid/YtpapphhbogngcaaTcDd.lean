/-
  The draw of two clocks. Conditions: those typed at each theorem.
-/
import Derived.Test.YtpapphhbogngcaaSrcB
import Derived.Test.YtpapphhbogngcaaIss
namespace Go.Proofs.Ytpapphhbogngcaa
open Go.RowKit
theorem Rd.keepB {α : Type} {sz : Nat} {f : α → List Value} {w w' : World} {A : Option Addr} {l : List α} (h : Rd sz f w A l) (hk : ∀ g o m, A = some ⟨g, o, m⟩ → w'.heap[g]? = w.heap[g]?) : Rd sz f w' A l :=
  ⟨h.len, fun h0 => by
    obtain ⟨b, o, e, hb, hc⟩ := h.at_ h0
    have hkb := hk b o none e
    refine ⟨b, o, e, ⟨?_⟩, fun i hi j v hv => (World.cell?_of_block hkb).trans (hc i hi j v hv)⟩
    rcases Nat.lt_or_ge b w'.heap.size with h1 | h1
    · exact h1
    · rw [Array.getElem?_eq_none h1, Array.getElem?_eq_getElem hb.h] at hkb
      cases hkb⟩
/-- v is a row of slices that append has built from block B on; the slices read as L says -/
structure IrR (B : Nat) (e : TypeId) (v : Value) (L : List IR) (w : World) : Prop where
  own : w.ownsRow B e 1 v L.length (L.flatMap irC)
  ge : ∀ x ∈ L, Rd 1 iC w x.A x.l ∧ ∀ g o m, x.A = some ⟨g, o, m⟩ → B ≤ g ∧ g < w.heap.size ∧ v.ownBlock ≠ some g
section
variable {B : Nat} {e : TypeId} {v v' : Value} {L : List IR} {w : World}
theorem IrR.made (w : World) {B : Nat} (hB : B ≤ w.heap.size) (e : TypeId) : IrR B e (.slice (some ⟨w.heap.size, 0, none⟩) 0 0) [] (w.alloc (.cells #[] e)) :=
  ⟨row_made w B hB e 1 irC, fun x h => by simp at h⟩
theorem IrR.dr {b n : Nat} (h : IrR B e v L w) (k : Dr b n w) (hB : b < B) : IrR B e v L k.v :=
  ⟨ownsRow_dr h.own k hB, fun x hx => ⟨(h.ge x hx).1.keepB fun g o m e => by have := (h.ge x hx).2 g o m e; exact k.keep g this.2.1 (by omega), fun g o m e => by have := (h.ge x hx).2 g o m e; exact ⟨this.1, Nat.lt_of_lt_of_le this.2.1 k.size, this.2.2⟩⟩⟩
theorem IrR.alloc (h : IrR B e v L w) (o : Obj) : IrR B e v L (w.alloc o) :=
  ⟨h.own.alloc _, fun x hx => ⟨(by haveI := (h.ge x hx).1; infer_instance), fun g o m e => by have := (h.ge x hx).2 g o m e; exact ⟨this.1, Nat.lt_of_lt_of_le this.2.1 (by simp), this.2.2⟩⟩⟩
theorem IrR.step (h : IrR B e v L w) (hB : B ≤ w.heap.size) {o1 u : Obj} {x : IR} (hx : x.A = some ⟨w.heap.size, 0, none⟩) (hr : Rd 1 iC (w.alloc o1) x.A x.l) {kk : Exb B ((w.alloc o1).alloc u)}
    (hA : Apd B e 1 v v' ((w.alloc o1).alloc u) kk (L ++ [x]).length ((L ++ [x]).flatMap irC)) : IrR B e v' (L ++ [x]) kk.v := by
  have hkeep : ∀ b, b < w.heap.size + 1 → v.ownBlock ≠ some b → kk.v.heap[b]? = (w.alloc o1).heap[b]? := fun b hb hne => by
    rw [hA.keep b (by simp; omega) hne]
    exact Ex.block (w := w.alloc o1) (Ex.of ((Below.refl _ _).alloc (Nat.le_refl _) u)) (by simp; omega)
  have hvn : v.ownBlock ≠ some w.heap.size := fun e => by have := (h.own.lt _ e).2; omega
  have hsz : w.heap.size + 2 ≤ kk.v.heap.size := Nat.le_trans (by simp) kk.h.size
  have hv' : ∀ b, b < w.heap.size + 1 → v.ownBlock ≠ some b → v'.ownBlock ≠ some b := fun b hb hne => hA.ne (by simp; omega) hne
  refine ⟨hA.own, fun y hy => ?_⟩
  rcases List.mem_append.1 hy with hy | hy
  · obtain ⟨h1, h2⟩ := h.ge y hy
    refine ⟨h1.keepB fun g o m e => ?_, fun g o m e => ?_⟩
    · have := h2 g o m e
      rw [hkeep g (by omega) this.2.2]
      exact Ex.block (w := w) (Ex.of ((Below.refl _ _).alloc (Nat.le_refl _) o1)) this.2.1
    · have := h2 g o m e
      exact ⟨this.1, by omega, hv' g (by omega) this.2.2⟩
  · rw [List.mem_singleton.1 hy]
    refine ⟨hr.keepB fun g o m e => ?_, fun g o m e => ?_⟩
    · rw [hx] at e; cases e
      exact hkeep _ (by omega) hvn
    · rw [hx] at e; cases e
      exact ⟨hB, by omega, hv' _ (by omega) hvn⟩
theorem IrR.form (h : IrR B e v L w) : ∃ A c, v = .slice A L.length c := by
  obtain ⟨A, c, h1, -, -⟩ := Ow.of_row (f := irC) (fun _ => rfl) h.own
  exact ⟨A, c, h1⟩
theorem IrR.iss {A : Option Addr} {n c : Nat} (h : IrR B e (.slice A n c) L w) : Iss w A (L.map IR.l) := by
  obtain ⟨A', c', he, hO, -⟩ := Ow.of_row (f := irC) (fun _ => rfl) h.own
  injection he with e1 e2 e3
  subst e1
  haveI := hO
  exact Iss.of (inferInstance) fun x hx => (h.ge x hx).1
end
theorem rd_onei (w : World) (g : Nat) (a : Int) (t : TypeId) (hg : g = w.heap.size) : Rd 1 iC (w.alloc (.cells #[.int .i64 a] t)) (some ⟨g, 0, none⟩) [a] := by
  subst hg
  exact ⟨by simp, fun _ => ⟨w.heap.size, 0, rfl, inferInstance, fun k hk j v hv => by
    have hj : j = 0 := by
      rcases j with _ | j
      · rfl
      · simp [iC] at hv
    subst hj
    have hk2 : k < 1 := hk
    obtain rfl : k = 0 := by omega
    simp [iC] at hv; subst hv; simp [go_sem]⟩⟩
section
set_option maxHeartbeats 3200000
set_option maxRecDepth 20000
theorem infoSS : (Try.prog.info? 35).map (fun i => (i.zero, i.size, i.bytes)) = some (some (.slice none 0 0), 1, 24) := by kernel_rfl
theorem drawDrift_any (A : Option Addr) (c : Nat) (l : List Int) (w : World) [hl : Rd 1 byC w A l] (hb : ∀ x ∈ l, 0 ≤ x ∧ x ≤ 255) :
    Calls Try.prog 11 #[.slice A l.length c] w fun e w' => ∃ (A' : Option Addr) (c' : Nat) (V : List (List Int)), V.length ≤ 1000 ∧ e = .returned (.slice A' V.length c') ∧ ∃ k : Ex w, w' = k.v ∧ Iss k.v A' V := by
  obtain ⟨b, hbw⟩ : ∃ b, b = w.heap.size := ⟨_, rfl⟩
  haveI hle : LeB w.heap.size b := ⟨by omega⟩
  have HB := hid hbw
  clear hbw
  go_enter Try.func11, Try.ntmps11
  go_wp2_with ((go_at_call 39; go_loud (refine (from_g _ _ l b _ hb ?_).mono ?_; (· exact (by have := HB.out; simpa using this)); rintro e w' ⟨rfl, k, rfl, hs⟩)))
  have hbk : b < k.v.heap.size := hs.lt
  go_wp2_with ((go_at_call 47; go_loud (refine (pick_any b _ _ ?_ ?_).mono ?_); (· omega); (· omega); rintro e w' ⟨x, ⟨hx1, hx2⟩, rfl, k1, rfl⟩))
  go_loopw [4, 5, 6, 7] (fun v f g t wr => ∃ (q : Nat) (L : List IR) (A1 : Option Addr) (c1 : Nat) (y z : Int) (n' : Nat), q ≤ 5 ∧ t = .int .i64 q ∧ f = .int .i64 y ∧ g = .int .i64 z ∧ v = .slice A1 L.length c1 ∧ L.length + q ≤ 5 ∧ n' + 4 * q ≤ 100 ∧ (-1000000000000 + 100000000000 * (q : Int) ≤ y ∧ y ≤ 1000000000000 - 100000000000 * (q : Int)) ∧ (-1000000000000 + 100000000000 * (q : Int) ≤ z ∧ z ≤ 1000000000000 - 100000000000 * (q : Int)) ∧ ∃ j : Dr b n' k.v, wr = j.v ∧ IrR k.v.heap.size 35 (.slice A1 L.length c1) L j.v) (fun _ _ _ t _ => (intOf t).toNat)
  case atStart =>
    rename_i y hy1 hy2 k0 z hz1 hz2 k2 _ _
    obtain ⟨q, rfl⟩ := Int.eq_ofNat_of_zero_le hx1
    exact ⟨q + 1, [], some ⟨k.v.heap.size, 0, none⟩, 0, y, z, 0 + 2 + 2 + 2, by omega, by go_num, rfl, rfl, rfl, by simp; omega, by omega, ⟨by omega, by omega⟩, ⟨by omega, by omega⟩, DrK.fin2 (p := fun W => IrR k.v.heap.size 35 (.slice (some ⟨k.v.heap.size, 0, none⟩) 0 0) [] W) (DrK.dr (DrK.dr (DrK.dr (DrK.alloc (n := 0) (DrK.rf b _) _) k0) k2) k1) (Nat.le_refl _) ((((IrR.made k.v (Nat.le_refl _) _).dr k0 hbk).dr k2 hbk).dr k1 hbk)⟩
  case round =>
    obtain ⟨q, L, A1, c1, y, z, n', hq, rfl, rfl, rfl, rfl, hD, hn', ⟨hy1, hy2⟩, ⟨hz1, hz2⟩, j0, rfl, hrow⟩ := hrel
    have HROW := hid hrow
    clear hrow
    by_cases h0 : 0 < q
    · obtain ⟨p, rfl⟩ : ∃ p, q = p + 1 := ⟨q - 1, by omega⟩
      have h0i : (0 : Int) < ((p + 1 : Nat) : Int) := by omega
      go_wp2_with ((at_builtin; go_loud (refine wpList_appZ irC _ rfl _ _ _ rfl k.v.heap.size ?_ _ _ _ _ Try.underlying31 infoSS rfl (by omega) (fun _ => ⟨rfl, by simp [irC, Value.oneCell']⟩) (.slice A1 L.length c1) L rfl (((HROW.out.alloc _).alloc _).own) (⟨some ⟨j0.v.heap.size, 0, none⟩, 2, [y, z]⟩ : IR) _ _ rfl (cellsB (by simp [irC])) ?_ ?_ ?_; (· exact LeB.h); (· omega); (· omega); intro v2 kk2 hA2; haveI hs2 := Src.exb (inferInstance : Src _ b n') kk2 hbk)))
      have hI := HROW.out.step LeB.h (x := ⟨some ⟨j0.v.heap.size, 0, none⟩, 2, [y, z]⟩) rfl (rd_two _ _ _ _ _ rfl) hA2
      obtain ⟨A2, c2, rfl⟩ := hI.form
      have HI := hid hI
      clear hI hA2
      go_wp2_with ((go_at_call 47; go_loud (refine (pick_any b _ _ ?_ ?_).mono ?_); (· omega); (· omega); rintro e w' ⟨x, ⟨hx1, hx2⟩, rfl, k3, rfl⟩))
      go_roundw
      case rel =>
        rename_i xa ha1 ha2 k3a
        exact ⟨p, L ++ [(⟨some ⟨j0.v.heap.size, 0, none⟩, 2, [y, z]⟩ : IR)], A2, c2, y + (1 + xa), z + x, n' + 2 + 2, by omega, by go_num, by go_num, by go_num, by simp, by simp; omega, by omega, ⟨by omega, by omega⟩, ⟨by omega, by omega⟩, DrK.fin2 (p := fun W => IrR k.v.heap.size 35 (.slice A2 (L ++ [(⟨some ⟨j0.v.heap.size, 0, none⟩, 2, [y, z]⟩ : IR)]).length c2) (L ++ [(⟨some ⟨j0.v.heap.size, 0, none⟩, 2, [y, z]⟩ : IR)]) W) (DrK.dr (DrK.dr (DrK.exb (DrK.alloc (DrK.alloc (n := n') ⟨j0.lo, j0.size, j0.keep⟩ _) _) kk2 (Nat.le_refl _) hbk) k3a) k3) (Nat.le_refl _) ((HI.out.dr k3a hbk).dr k3 hbk)⟩
      case measure => simp [intOf]
    · obtain rfl : q = 0 := by omega
      go_wp2_with (first | (go_at_call 47; go_loud (refine (pick_any b _ _ ?_ ?_).mono ?_); (· omega); (· omega); rintro e w' ⟨x, ⟨hx1, hx2⟩, rfl, k3, rfl⟩) | (go_at_call 41; go_loud (refine (among_l 10000000000 b _ _ _ _ _ _ ?_ ?_ ?_ ?_ ?_ ?_ ?_).mono ?_); (· simp); (· exact (inferInstance : LtW b _).h); (· omega); (· omega); (· omega); (· rfl); (· repeat (first | exact trivial | refine ⟨⟨_, rfl, by omega, by omega⟩, ?_⟩)); rintro e w' ⟨z4, ⟨hz3, hz4⟩, rfl, k4, rfl⟩) | (at_builtin; go_loud (refine wpList_appZ irC _ rfl _ _ _ rfl k.v.heap.size ?_ _ _ _ _ Try.underlying31 infoSS rfl (by omega) (fun _ => ⟨rfl, by simp [irC, Value.oneCell']⟩) (.slice A1 L.length c1) L rfl (((((HROW.out.dr k3 hbk).alloc _).alloc _).own)) (⟨some ⟨k3.v.heap.size, 0, none⟩, 1, [5]⟩ : IR) _ _ rfl (cellsB (by simp [irC])) ?_ ?_ ?_; (· exact LeB.h); (· omega); (· omega); intro v2 kk2 hA2; haveI hs2 := Src.exb (inferInstance : Src _ b (n' + 2)) kk2 hbk)) | (at_builtin; go_loud (refine wpList_appZ irC _ rfl _ _ _ rfl k.v.heap.size ?_ _ _ _ _ Try.underlying31 infoSS rfl (by omega) (fun _ => ⟨rfl, by simp [irC, Value.oneCell']⟩) (.slice A1 L.length c1) L rfl ((((((HROW.out.dr k3 hbk).alloc _).dr k4 hbk).alloc _).alloc _).own) (⟨some ⟨k4.v.heap.size, 0, none⟩, 2, [86400000, z4]⟩ : IR) _ _ rfl (cellsB (by simp [irC])) ?_ ?_ ?_; (· exact LeB.h); (· omega); (· omega); intro v2 kk2 hA2; haveI hs2 := Src.exb (inferInstance : Src _ b (n' + 2 + 2)) kk2 hbk)))
      · have hI := (HROW.out.dr k3 hbk).step LeB.h (x := ⟨some ⟨k3.v.heap.size, 0, none⟩, 1, [5]⟩) rfl (rd_onei _ _ _ _ rfl) hA2
        obtain ⟨A2, c2, rfl⟩ := hI.form
        have HI := hid hI.iss
        clear hI hA2
        go_wp2
        go_ret
        exact ⟨A2, c2, _, by simp; omega, by simp, ex_and (fun W => Iss W A2 ((L ++ [(⟨some ⟨k3.v.heap.size, 0, none⟩, 1, [5]⟩ : IR)]).map IR.l)) (by (refine Ok.toEx ?_; (repeat (first | (with_reducible exact Ok.rf _) | (with_reducible refine Ok.alloc ?_ _) | (with_reducible refine Ok.ex ?_ _) | (with_reducible refine Ok.dr ?_ _) | (with_reducible refine Ok.drew ?_) | (with_reducible refine Ok.setCellI ?_ _ _ _) | (with_reducible refine Ok.exb ?_ _))))) HI.out⟩
      · have hI := (((HROW.out.dr k3 hbk).alloc _).dr k4 hbk).step LeB.h (x := ⟨some ⟨k4.v.heap.size, 0, none⟩, 2, [86400000, z4]⟩) rfl (rd_two _ _ _ _ _ rfl) hA2
        obtain ⟨A2, c2, rfl⟩ := hI.form
        have HI := hid hI.iss
        clear hI hA2
        go_wp2
        go_ret
        exact ⟨A2, c2, _, by simp; omega, by simp, ex_and (fun W => Iss W A2 ((L ++ [(⟨some ⟨k4.v.heap.size, 0, none⟩, 2, [86400000, z4]⟩ : IR)]).map IR.l)) (by (refine Ok.toEx ?_; (repeat (first | (with_reducible exact Ok.rf _) | (with_reducible refine Ok.alloc ?_ _) | (with_reducible refine Ok.ex ?_ _) | (with_reducible refine Ok.dr ?_ _) | (with_reducible refine Ok.drew ?_) | (with_reducible refine Ok.setCellI ?_ _ _ _) | (with_reducible refine Ok.exb ?_ _))))) HI.out⟩
      · have HI := hid (HROW.out.dr k3 hbk).iss
        go_ret
        exact ⟨A1, c1, L.map IR.l, by simp; omega, by simp, ex_and (fun W => Iss W A1 (L.map IR.l)) (by (refine Ok.toEx ?_; (repeat (first | (with_reducible exact Ok.rf _) | (with_reducible refine Ok.alloc ?_ _) | (with_reducible refine Ok.ex ?_ _) | (with_reducible refine Ok.dr ?_ _) | (with_reducible refine Ok.drew ?_) | (with_reducible refine Ok.setCellI ?_ _ _ _) | (with_reducible refine Ok.exb ?_ _))))) HI.out⟩
end
end Go.Proofs.Ytpapphhbogngcaa
