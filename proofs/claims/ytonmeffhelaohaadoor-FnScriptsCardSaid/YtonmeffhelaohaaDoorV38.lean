/-
  impl.ReadScript: a text's lines read one after the other. Conditions: those typed at each theorem.
  The law of ReadScript. Conditions: those typed at each theorem.
-/
import Derived.Test.YtonmeffhelaohaaDoorV36
import Derived.Test.YtonmeffhelaohaaDoorV37
import Derived.Test.YtonmeffhelaohaaDoorV32
import Derived.Test.YtonmeffhelaohaaDoorV15
import Derived.Test.YtonmeffhelaohaaDoorV7
namespace Go.Proofs.YtonmeffhelaohaaDoor
open Go.RowKit
attribute [local go_sem] Oper.semAt_some
/-! ### plain -/
theorem one_split : ∀ {x y T U : List UInt8}, x ++ 10 :: T = y ++ 10 :: U → (∀ a ∈ x, a ≠ 10) → (∀ a ∈ y, a ≠ 10) → x = y ∧ T = U
  | [], [], T, U, h, _, _ => by simp at h; exact ⟨rfl, h⟩
  | [], b :: y, T, U, h, _, hy => by simp at h; exact absurd h.1.symm (hy b (by simp))
  | a :: x, [], T, U, h, hx, _ => by simp at h; exact absurd h.1 (hx a (by simp))
  | a :: x, b :: y, T, U, h, hx, hy => by
    simp only [List.cons_append, List.cons.injEq] at h
    obtain ⟨e1, e2⟩ := one_split h.2 (fun c hc => hx c (by simp [hc])) (fun c hc => hy c (by simp [hc]))
    exact ⟨by rw [h.1, e1], e2⟩
/-- a line without its end -/
def trm (line : ByteArray) : ByteArray := ⟨(Lib.trimSuffix line.data.toList [10]).toArray⟩
theorem trm_size (line : ByteArray) : (trm line).size ≤ line.size := by
  have h := Lib.trimSuffix_le line.data.toList [10]
  have e1 : (trm line).size = (Lib.trimSuffix line.data.toList [10]).length := by show (List.toArray _).size = _; simp
  have e2 : line.data.toList.length = line.size := by simp
  omega
theorem trm_nl {line : ByteArray} {x : List UInt8} (h : line.data.toList = x ++ [10]) : (trm line).data.toList = x := by
  show (Lib.trimSuffix line.data.toList [10]).toArray.toList = x
  rw [h]
  have hsuf : Lib.hasSuffix (x ++ [10]) [10] = true := by simp [Lib.hasSuffix]
  unfold Lib.trimSuffix
  rw [if_pos hsuf]
  simp
theorem cut_bad {s r line rest : ByteArray} {out : List Ln} (h : SoFar s out r.data.toList) (hr : r.size ≠ 0) (hc : Cut r line rest) (hb : lnR (wdS (trm line)) = none) : ∀ l, ¬ IsS s l := fun l hl => by
  obtain ⟨x, T, h1, h2, h3, _⟩ := soFar_line h (fun e => hr (by have := congrArg List.length e; simpa using this)) hl
  rcases hc with ⟨y, U, c1, c2, c3, _⟩ | ⟨c1, _⟩
  · obtain ⟨e1, _⟩ := one_split (h1.symm.trans c1) h2 c2
    have e3 : trm line = lnB x := ba_ext (by rw [trm_nl c3, e1])
    rw [e3, h3] at hb
    cases hb
  · exact c1 10 (by rw [h1]; simp) rfl
theorem cut_good {s r line rest : ByteArray} {out : List Ln} {z : Ln} (h : SoFar s out r.data.toList) (hr : r.size ≠ 0) (hc : Cut r line rest) (hb : lnR (wdS (trm line)) = some z) : SoFar s (out ++ [z]) rest.data.toList := fun l hl => by
  obtain ⟨x, T, h1, h2, h3, h4, h5, h6⟩ := soFar_line h (fun e => hr (by have := congrArg List.length e; simpa using this)) hl
  rcases hc with ⟨y, U, c1, c2, c3, c4⟩ | ⟨c1, _⟩
  · obtain ⟨e1, e2⟩ := one_split (h1.symm.trans c1) h2 c2
    have e3 : trm line = lnB x := ba_ext (by rw [trm_nl c3, e1])
    rw [e3, h3] at hb
    obtain rfl := Option.some.inj hb
    exact ⟨h4, h5, by rw [c4, ← e2]; exact h6⟩
  · exact absurd rfl (c1 10 (by rw [h1]; simp))
/-! ### the worlds of the loop -/
theorem boxed_keptO {W W' : World} {row : Option Nat} {B : Nat} {t : TypeId} {v : Value} (h : Boxed W B t v) (hg : W.grownBy W' row) (hr : ∀ r, row = some r → ∃ o : Obj, W.heap[r]? = some o ∧ o.isCells = false) : Boxed W' B t v :=
  h.kept hg (fun e => by obtain ⟨o, ho, hc⟩ := hr B e.symm; rw [show W.heap[B]? = _ from h] at ho; cases ho; cases hc)
theorem rowKeptO {W W' : World} {row : Option Nat} {base : Nat} {e : TypeId} {size k : Nat} {v : Value} {xs : List Value} (h : W.ownsRow base e size v k xs) (hg : W.grownBy W' row) (hr : ∀ r, row = some r → ∃ o : Obj, W.heap[r]? = some o ∧ o.isCells = false) : W'.ownsRow base e size v k xs := by
  refine h.kept hg ?_
  rcases h.2 with ⟨rfl, _⟩ | ⟨g, cap, cur, rfl, _, hgb, _⟩
  · exact .inl rfl
  · refine .inr fun e' => ?_
    obtain ⟨o, ho, hc⟩ := hr g (by simpa [Value.ownBlock] using e'.symm)
    rw [hgb] at ho; cases ho; cases hc
theorem own_ok {W W' : World} {B : Nat} {e : TypeId} {sz : Nat} {v : Value} {n : Nat} {xs : List Value} (h : W.ownsRow B e sz v n xs) (hk : ∃ k : Ex W, W' = k.v) : W'.ownsRow B e sz v n xs := by obtain ⟨k, rfl⟩ := hk; exact ownsRow_ex h k
theorem callsIn_in {l n : Nat} {P : Program} {f : FuncId} {args : Array Value} {w : World} {R : Ending → World → Prop} (h : Calls P f args w R) : CallsIn (Fence.wide.inRound l) n P f args w R := (callsIn_wide (n := n)).2 h
/-- what the loop's cells hold -/
structure RsG (w : World) (out : List Ln) (r : ByteArray) (W : World) : Prop where
  b2 : Boxed W w.heap.size 28 (.slice none 0 0)
  b3 : Boxed W (w.heap.size + 1) 4 (.bool false)
  b4 : ∃ v, Boxed W (w.heap.size + 1 + 1) 28 v ∧ W.ownsRow w.heap.size 62 3 v out.length (out.flatMap Ln.cells)
  b5 : Boxed W (w.heap.size + 1 + 1 + 1) 9 (.string r)
  lo : Below w.heap.size w W
theorem RsG.kept {w W W' : World} {out : List Ln} {r : ByteArray} {row : Option Nat} (h : RsG w out r W) (hg : W.grownBy W' row) (hr : ∀ r, row = some r → w.heap.size ≤ r ∧ ∃ o : Obj, W.heap[r]? = some o ∧ o.isCells = false) : RsG w out r W' := by
  have hr2 := fun r e => (hr r e).2
  obtain ⟨v, hv, hrow⟩ := h.b4
  exact ⟨boxed_keptO h.b2 hg hr2, boxed_keptO h.b3 hg hr2, ⟨v, boxed_keptO hv hg hr2, rowKeptO hrow hg hr2⟩, boxed_keptO h.b5 hg hr2, h.lo.grown hg h.lo.size (fun k e => (hr k e).1)⟩
theorem RsG.box {w W : World} {out : List Ln} {r : ByteArray} (h : RsG w out r W) (rest : ByteArray) : RsG w out rest (W.setCell ⟨w.heap.size + 1 + 1 + 1, 0, none⟩ (.string rest)) := by
  obtain ⟨v, hv, hrow⟩ := h.b4
  have hg := grownBy_setCell' W (w.heap.size + 1 + 1 + 1) (.string rest)
  exact ⟨h.b2.kept hg (by simp; omega), h.b3.kept hg (by simp), ⟨v, hv.kept hg (by simp), hrow.kept hg (.inr (h.b5.not_row (by decide) hrow).symm)⟩, h.b5.set _, h.lo.setCell (p := ⟨_, 0, none⟩) (by show w.heap.size ≤ w.heap.size + 1 + 1 + 1; omega) _⟩
theorem RsG.ex {w W : World} {out : List Ln} {r : ByteArray} (h : RsG w out r W) {W' : World} (hk : ∃ k : Ex W, W' = k.v) : RsG w out r W' := by
  obtain ⟨k, rfl⟩ := hk
  exact h.kept (grownBy_of_ex k) (fun _ e => by cases e)
theorem RsG.app {w W W4 w1 : World} {tmp : Obj} {v v' : Value} {out : List Ln} {x : Ln} {r : ByteArray} (hgrow : (W4.alloc tmp).grownBy w1 v.ownBlock) (hk : ∃ k : Ex W, W4 = k.v) (h : RsG w out r W)
    (hv : Boxed W (w.heap.size + 1 + 1) 28 v) (hrow : W.ownsRow w.heap.size 62 3 v out.length (out.flatMap Ln.cells))
    (hown' : w1.ownsRow w.heap.size 62 3 v' (out.length + 1) (out.flatMap Ln.cells ++ Ln.cells x)) :
    Boxed w1 (w.heap.size + 1 + 1) 28 v ∧ KeepsOthers W (w1.setCell ⟨w.heap.size + 1 + 1, 0, none⟩ v') ∧ RsG w (out ++ [x]) r (w1.setCell ⟨w.heap.size + 1 + 1, 0, none⟩ v') := by
  obtain ⟨k, rfl⟩ := hk
  have h4 : RsG w out r k.v := h.ex ⟨k, rfl⟩
  have hv4 : Boxed k.v _ _ v := hv.kept (grownBy_of_ex k) (by simp)
  have hrow4 := ownsRow_ex hrow k
  obtain ⟨a1, a2, a3, a4, a5⟩ := hv4.appended (by decide) hrow4 h4.lo.size (by omega) hown' hgrow
  have hb : ∀ {B : Nat} {t : TypeId} {u : Value}, Boxed k.v B t u → t ≠ 62 → B ≠ w.heap.size + 1 + 1 → Boxed (w1.setCell ⟨w.heap.size + 1 + 1, 0, none⟩ v') B t u := fun hB ht hne =>
    ((hB.alloc tmp).kept hgrow (hB.not_row ht hrow4)).kept (grownBy_setCell' _ _ _) (by simpa using hne)
  refine ⟨a1, (KeepsOthers.ex k).trans a4, hb h4.b2 (by decide) (by omega), hb h4.b3 (by decide) (by omega), ⟨v', a2, ?_⟩, hb h4.b5 (by decide) (by omega), h4.lo.trans a5⟩
  simpa using a3
theorem RsG.no {w W : World} {out : List Ln} {r : ByteArray} (h : RsG w out r W) : RsG w out r ((W.setCell ⟨w.heap.size, 0, none⟩ (.slice none 0 0)).setCell ⟨w.heap.size + 1, 0, none⟩ (.bool false)) := by
  obtain ⟨v, hv, hrow⟩ := h.b4
  have g1 := grownBy_setCell' W w.heap.size (.slice none 0 0)
  have g2 := grownBy_setCell' (W.setCell ⟨w.heap.size, 0, none⟩ (.slice none 0 0)) (w.heap.size + 1) (.bool false)
  have r1 := hrow.kept g1 (.inr (h.b2.not_row (by decide) hrow).symm)
  have b31 := h.b3.kept g1 (by simp)
  refine ⟨(h.b2.set _).kept g2 (by simp), b31.set _, ⟨v, (hv.kept g1 (by simp; omega)).kept g2 (by simp), r1.kept g2 (.inr (b31.not_row (by decide) r1).symm)⟩, (h.b5.kept g1 (by simp; omega)).kept g2 (by simp; omega), ?_⟩
  exact (h.lo.setCell (p := ⟨w.heap.size, 0, none⟩) (Nat.le_refl _) _).setCell (p := ⟨w.heap.size + 1, 0, none⟩) (by show w.heap.size ≤ w.heap.size + 1; omega) _
theorem fin_put {w W' : World} {D : Nat} (h : ∃ k : Ex w, W' = k.v) (hD : w.heap.size ≤ D) (o : Obj) : ∃ k : Ex w, W'.putObj D o = k.v := by
  obtain ⟨k, rfl⟩ := h
  exact ⟨Ex.of (k.h.grown (grownBy_putObj' k.v D o) k.h.size (fun r e => by cases e; exact hD)), rfl⟩
@[local go_sem] theorem cell_putObjI (W : World) (D : Nat) (o : Obj) (b p : Nat) [h : NeB b D] : (W.putObj D o).cell? ⟨b, p, none⟩ = W.cell? ⟨b, p, none⟩ := World.cell?_of_block (World.putObj_heap_other h.h)
theorem lines_any (s : ByteArray) (w : World) : Calls Tryd.prog 27 #[.string s] w fun e w' => e = .returned (.func (.func 52) #[] #[.pointer (some ⟨w.heap.size, 0, none⟩)]) ∧ w' = w.alloc (.cells #[.string s] 9) := by
  go_enter Tryd.func27, Tryd.ntmps27
  go_wp2_with (fail)
  go_ret
  exact ⟨rfl, rfl⟩
section
set_option maxHeartbeats 3200000
set_option maxRecDepth 20000
theorem iReadS_any (s : ByteArray) (w : World) [Tb w] [Es w] [Er w] [Ml w] (hs : s.size ≤ 1048576) :
    Calls Tryd.prog 10 #[.string s] w (RsPost s w) := by
  refine callsIn_wide.1 (callsIn_of_wp_marks (n := 1) Tryd.func10 rfl trivial ?_)
  simp only [Tryd.ntmps10, List.size_toArray, List.length_cons, List.length_nil, Nat.reduceAdd, Nat.reduceSub, Array.replicate_succ, Array.replicate_zero, List.push_toArray, List.append_toArray, List.nil_append, List.cons_append]
  refine wpIn_wide.2 ?_
  go_wp2_with (go_at_call 27; go_loud (refine (lines_any s _).mono ?_); rintro e w' ⟨rfl, rfl⟩)
  rename_i K hKK
  have hI0 : ∀ (W W' : World) (row : Option Nat) (out : List Ln) (r : ByteArray), RsG w out r W → W.grownBy W' row → (∀ r, row = some r → w.heap.size ≤ r ∧ ∃ o : Obj, W.heap[r]? = some o ∧ o.isCells = false) → RsG w out r W' := fun W W' row out r h hg hr => h.kept hg hr
  refine (wpIn_wide (n := 1)).1 (range_lines (B := w.heap.size + 1 + 1 + 1) rfl rfl
    (fun r W => ∃ out, SoFar s out r.data.toList ∧ out.length + r.size ≤ s.size ∧ Oks out ∧ RsG w out r W)
    (fun line rest W => ∃ out r, SoFar s out r.data.toList ∧ r.size ≠ 0 ∧ Cut r line rest ∧ out.length + r.size ≤ s.size ∧ Oks out ∧ RsG w out rest W)
    (fun W => (rsL s = [] ∧ rsB s = false) ∧ ∃ out r, RsG w out r W)
    ?hI ?hIb ?hIx ?hIc ?hst s ?h0
    (fun x => { tmps := #[.string s, undef, .pointer (some ⟨w.heap.size, 0, none⟩), .pointer (some ⟨w.heap.size + 1, 0, none⟩), .pointer (some ⟨w.heap.size + 1 + 1, 0, none⟩), .string x, undef, undef, .string s, .func (.func 52) #[] #[.pointer (some ⟨w.heap.size + 1 + 1 + 1, 0, none⟩)], .string x, undef, undef, undef, undef, undef, undef, undef, undef, undef, undef, undef, undef, undef, undef, undef, undef, undef, undef, undef, undef, undef, undef], defers := [] })
    ?assign ?body ?done ?stop)
  case hI =>
    rintro r W W' row ⟨out, h1, h2, h3, hG⟩ hg hr
    exact ⟨out, h1, h2, h3, hG.kept hg (fun r e => ⟨by have := (hr r e).1; simp at this; omega, (hr r e).2⟩)⟩
  case hIb =>
    rintro line r W W' row ⟨out, r0, h1, h2, h3, h4, h5, hG⟩ hg hr
    exact ⟨out, r0, h1, h2, h3, h4, h5, hG.kept hg (fun r e => ⟨by have := (hr r e).1; simp at this; omega, (hr r e).2⟩)⟩
  case hIx =>
    rintro _ W W' row ⟨h1, out, r, hG⟩ hg hr
    exact ⟨h1, out, r, hG.kept hg (fun r e => ⟨by have := (hr r e).1; simp at this; omega, (hr r e).2⟩)⟩
  case hIc =>
    rintro r W ⟨out, h1, h2, h3, hG⟩
    exact ⟨hG.b5.cell, hG.b5.frozen, by omega⟩
  case hst =>
    rintro r line rest W ⟨out, h1, h2, h3, hG⟩ hr hc
    exact ⟨out, r, h1, hr, hc, h2, h3, hG.box rest⟩
  case h0 =>
    refine ⟨[], soFar_0 s, by simp, ⟨fun _ h => by simp at h⟩, ?_, ?_, ⟨.slice none 0 0, ?_, ?_⟩, ?_, ?_⟩
    · exact (((Boxed.new w _ _).alloc _).alloc _).alloc _
    · have h := Boxed.new (w.alloc (.cells #[.slice none 0 0] 28)) 4 (.bool false)
      rw [World.size_alloc] at h
      exact (h.alloc _).alloc _
    · have h := Boxed.new ((w.alloc (.cells #[.slice none 0 0] 28)).alloc (.cells #[.bool false] 4)) 28 (.slice none 0 0)
      simp only [World.size_alloc] at h
      exact h.alloc _
    · exact World.ownsRow_nil _ _ _ _
    · have h := Boxed.new (((w.alloc (.cells #[.slice none 0 0] 28)).alloc (.cells #[.bool false] 4)).alloc (.cells #[.slice none 0 0] 28)) 9 (.string s)
      simp only [World.size_alloc] at h
      exact h
    · obtain ⟨k, hk⟩ := (by (refine Ok.toEx ?_; (repeat (first | (with_reducible exact Ok.rf _) | (with_reducible refine Ok.alloc ?_ _) | (with_reducible refine Ok.ex ?_ _) | (with_reducible refine Ok.drew ?_) | (with_reducible refine Ok.setCellI ?_ _ _ _) | (with_reducible refine Ok.exb ?_ _)))) : ∃ k : Ex w, ((((w.alloc (.cells #[.slice none 0 0] 28)).alloc (.cells #[.bool false] 4)).alloc (.cells #[.slice none 0 0] 28)).alloc (.cells #[.string s] 9)) = k.v)
      rw [hk]
      exact k.h
  case assign =>
    intro l x W K hK
    gi_wp2
    exact hK
  case body =>
    rintro l line rest W ⟨out, r, hso, hr0, hcut, hlen, hoks, hG⟩
    obtain ⟨j0, rfl⟩ : ∃ j0 : Ex w, W = j0.v := ⟨Ex.of hG.lo, rfl⟩
    obtain ⟨v, hv, hrow⟩ := hG.b4
    obtain ⟨A1, d1, rfl, hO, hFr⟩ := Ow.of_row (f := Ln.cells) (fun _ => rfl) hrow
    obtain ⟨hcs1, hcs2⟩ := cut_size hcut hr0
    have hts := trm_size line
    have hHROW := hid hrow
    have hHG := hid hG
    have hHV := hid hv
    have c4 := hv.cell
    have c2 := hG.b2.cell
    have c3 := hG.b3.cell
    have f2 := hG.b2.frozen
    have f3 := hG.b3.frozen
    have f4 := hv.frozen
    haveI l2 : LtW w.heap.size j0.v := ⟨hG.b2.lt⟩
    haveI l3 : LtW (w.heap.size + 1) j0.v := ⟨hG.b3.lt⟩
    haveI l4 : LtW (w.heap.size + 1 + 1) j0.v := ⟨hv.lt⟩
    have HB : Hid (lnR (wdS (trm line)) = none → rsL s = [] ∧ rsB s = false) := hid fun h => rs_no (cut_bad hso hr0 hcut h)
    have HGD : Hid (∀ z, lnR (wdS (trm line)) = some z → SoFar s (out ++ [z]) rest.data.toList) := hid fun z h => cut_good hso hr0 hcut h
    have hls : line.size ≤ 1048576 := by omega
    have hys : (trm line).size ≤ 1048576 := by omega
    clear hrow hG hv hso hcut
    obtain ⟨i0, hi, hz0, hz1, hz2⟩ := info_parts infoLnR
    gi_wp2_with (first | (refine ⟨trivial, rfl, ?_⟩; gi_at_call 29; go_loud (refine (callsIn_in (Tryd.strings_TrimSuffix line ⟨#[10]⟩ _ ?_)).mono ?_); (· omega); rintro e w' ⟨rfl, rfl⟩) | (refine ⟨trivial, rfl, ?_⟩; gi_at_call 28; go_loud (refine (callsIn_in (iLine_any (trm line) _ hys)).mono ?_); rintro e w' ⟨x, bx, rfl, hx1, hx2, k3, rfl⟩) | (gi_at_builtin; refine wpListIn_append_own _ rfl _ _ 28 rfl w.heap.size 62 i0 _ 3 32 Tryd.underlying28 hi hz0 hz1 hz2 rfl (by decide) _ _ _ rfl (((ownsRow_ex hHROW.out k3).alloc _).alloc _) ⟨k3.v.heap.size + 1, 0, none⟩ 1 1 (Ln.cells x) rfl rfl ?_ ?_ ?_ ?_ ?_ ?_; (· intro j u hj; rcases j with _ | _ | _ | j <;> simp [Ln.cells] at hj <;> subst hj <;> simp [Addr.add, go_sem]); (· simp [Ln.cells, Value.oneCell']); (· simp only [maxLen]; omega); (· omega); (· exact LeB.h); intro v' w1 hown' hgrow _; obtain ⟨g', cap', rfl⟩ := ownsRow_succ hown'; obtain ⟨hv1, hk2, hG2⟩ := RsG.app hgrow (by (refine Ok.toEx ?_; (repeat (first | (with_reducible exact Ok.rf _) | (with_reducible refine Ok.alloc ?_ _) | (with_reducible refine Ok.ex ?_ _) | (with_reducible refine Ok.drew ?_) | (with_reducible refine Ok.setCellI ?_ _ _ _) | (with_reducible refine Ok.exb ?_ _))))) hHG.out hHV.out hHROW.out hown'; have hc1 := hv1.cell; have hf1 := hv1.frozen))
    · have hb : bx = false := by simpa using ‹(!bx) = true›
      exact ⟨by ((repeat (first | (with_reducible exact KeepsOthers.refl _) | (with_reducible refine KeepsOthers.trans ?_ (KeepsOthers.setCell _ _ _)) | (with_reducible refine KeepsOthers.trans ?_ (KeepsOthers.ex _)) | (with_reducible refine KeepsOthers.trans ?_ (KeepsOthers.alloc _ _))))), HB.out (hx2 hb), out, rest, (hHG.out.ex (W' := k3.v.alloc _) (by (refine Ok.toEx ?_; (repeat (first | (with_reducible exact Ok.rf _) | (with_reducible refine Ok.alloc ?_ _) | (with_reducible refine Ok.ex ?_ _) | (with_reducible refine Ok.drew ?_) | (with_reducible refine Ok.setCellI ?_ _ _ _) | (with_reducible refine Ok.exb ?_ _)))))).no⟩
    · have hb : bx = true := by simpa using ‹(!bx) = false›
      refine ⟨hk2, out ++ [x], HGD.out x (hx1 hb), by simp; omega, oks_snoc hoks (lnR_ok (fun g hg => Nat.le_trans (wd_size hg) hys) (hx1 hb)), hG2⟩
  case done =>
    rintro D W hD ⟨out, hso, hlen, hoks, hG⟩ hK
    obtain ⟨j0, rfl⟩ : ∃ j0 : Ex w, W = j0.v := ⟨Ex.of hG.lo, rfl⟩
    obtain ⟨v, hv, hrow⟩ := hG.b4
    obtain ⟨A1, d1, rfl, hO, hFr⟩ := Ow.of_row (f := Ln.cells) (fun _ => rfl) hrow
    have hcap : out.length ≤ d1 := by have := (own_cap hrow).1; simpa using this
    have hHROW := hid hrow
    have hHG := hid hG
    have c4 := hv.cell
    have c2 := hG.b2.cell
    have c3 := hG.b3.cell
    have f2 := hG.b2.frozen
    have f3 := hG.b3.frozen
    have hD0 : w.heap.size + 1 + 1 + 1 + 1 ≤ D := by simpa using hD
    haveI n2 : NeB w.heap.size D := ⟨by omega⟩
    haveI n3 : NeB (w.heap.size + 1) D := ⟨by omega⟩
    haveI l2 : LtW w.heap.size j0.v := ⟨hG.b2.lt⟩
    haveI l3 : LtW (w.heap.size + 1) j0.v := ⟨hG.b3.lt⟩
    haveI l4 : LtW (w.heap.size + 1 + 1) j0.v := ⟨hv.lt⟩
    have hol : out.length ≤ 1048576 := by omega
    have hend : ∀ l, IsS s l → out = l := fun l hl => soFar_end hso hl
    clear hrow hG hv hD
    simp only [Exit.inBlock, Exit.then]
    refine hKK _ _ ?_
    clear hKK
    cases hvl : vL out
    · have HV := hid hvl
      have HN : Hid (rsL s = [] ∧ rsB s = false) := hid (rs_no fun l hl => by have h1 := hl.1; rw [← hend l hl, hvl] at h1; cases h1)
      clear hvl hend hso
      go_wp2_with (go_at_call 30; go_loud (refine (iValid_any A1 d1 out _ hcap hol).mono ?_); rw [HV.out]; rintro e w' ⟨rfl, k, rfl⟩)
      refine ⟨by simp, .inl ⟨D, _, rfl, run_takeDeferred (ds := []) ?_, ?_⟩⟩
      · (refine KeepsOthers.same (W := j0.v) ?_ _ _ hK rfl; (repeat (first | (with_reducible exact KeepsOthers.refl _) | (with_reducible refine KeepsOthers.trans ?_ (KeepsOthers.setCell _ _ _)) | (with_reducible refine KeepsOthers.trans ?_ (KeepsOthers.ex _)) | (with_reducible refine KeepsOthers.trans ?_ (KeepsOthers.alloc _ _)))))
      · refine ⟨.tuple #[.slice none 0 0, .bool false], by simp [results, Tryd.results10, go_sem, c2, c3, cell_putObjI], ?_⟩
        exact rsPost_no HN.out rfl (fin_put (by (refine Ok.toEx ?_; (repeat (first | (with_reducible exact Ok.rf _) | (with_reducible refine Ok.alloc ?_ _) | (with_reducible refine Ok.ex ?_ _) | (with_reducible refine Ok.drew ?_) | (with_reducible refine Ok.setCellI ?_ _ _ _) | (with_reducible refine Ok.exb ?_ _))))) (by omega) _)
    · have HV := hid hvl
      obtain ⟨R, hR⟩ : ∃ R, scXR out = R := ⟨_, rfl⟩
      have hR2 : scX out out.length = R := by rw [← hR]; unfold scXR; rw [if_pos hvl]
      by_cases hRs : R = s
      · have HN : Hid (rsL s = out ∧ rsB s = true) := hid (rs_yes ⟨hvl, by rw [hR2, hRs]⟩)
        clear hvl hend hso hR2
        subst hRs
        go_wp2_with (first | (go_at_call 30; go_loud (refine (iValid_any A1 d1 out _ hcap hol).mono ?_); rw [HV.out]; rintro e w' ⟨rfl, k, rfl⟩) | (go_at_call 18; go_loud (refine (iscx_any A1 d1 out _ hcap hol hR).mono ?_); rintro e w' ⟨rfl, k2, rfl⟩))
        refine ⟨by simp, .inl ⟨D, _, rfl, run_takeDeferred (ds := []) ?_, ?_⟩⟩
        · (refine KeepsOthers.same (W := j0.v) ?_ _ _ hK rfl; (repeat (first | (with_reducible exact KeepsOthers.refl _) | (with_reducible refine KeepsOthers.trans ?_ (KeepsOthers.setCell _ _ _)) | (with_reducible refine KeepsOthers.trans ?_ (KeepsOthers.ex _)) | (with_reducible refine KeepsOthers.trans ?_ (KeepsOthers.alloc _ _)))))
        · refine ⟨.tuple #[.slice A1 out.length d1, .bool true], by simp [results, Tryd.results10, go_sem, c2, c3, cell_putObjI], ?_⟩
          unfold RsPost
          rw [HN.out.1, HN.out.2]
          have hrow2 := ownsRow_ex (ownsRow_ex hHROW.out k) k2
          have hb2 : Boxed k2.v _ _ _ := (hHG.out.b2.kept (grownBy_of_ex k) (by simp)).kept (grownBy_of_ex k2) (by simp)
          have hb3 : Boxed k2.v _ _ _ := (hHG.out.b3.kept (grownBy_of_ex k) (by simp)).kept (grownBy_of_ex k2) (by simp)
          have hrow3 := hrow2.kept (grownBy_setCell' k2.v w.heap.size (.slice A1 out.length d1)) (.inr (hb2.not_row (by decide) hrow2).symm)
          have hb4 : Boxed _ _ _ _ := hb3.kept (grownBy_setCell' k2.v w.heap.size (.slice A1 out.length d1)) (by simp)
          have hrow4 := hrow3.kept (grownBy_setCell' _ (w.heap.size + 1) (.bool true)) (.inr (hb4.not_row (by decide) hrow3).symm)
          have hK9 : ((k2.v.setCell ⟨w.heap.size, 0, none⟩ (.slice A1 out.length d1)).setCell ⟨w.heap.size + 1, 0, none⟩ (.bool true)).heap[D]? = some (.deferred (some [])) := by (refine KeepsOthers.same (W := j0.v) ?_ _ _ hK rfl; (repeat (first | (with_reducible exact KeepsOthers.refl _) | (with_reducible refine KeepsOthers.trans ?_ (KeepsOthers.setCell _ _ _)) | (with_reducible refine KeepsOthers.trans ?_ (KeepsOthers.ex _)) | (with_reducible refine KeepsOthers.trans ?_ (KeepsOthers.alloc _ _)))))
          have hrow5 := ownsRow_putObj hrow4 (.deferred none) hK9 rfl
          obtain ⟨A2, d2, e2, hO2, _⟩ := Ow.of_row (f := Ln.cells) (fun _ => rfl) hrow5
          cases e2
          exact ⟨A1, d1, rfl, ex_and (fun W => Ow 3 Ln.cells W A1 out ∧ Fr w A1 ∧ Inw W A1) (fin_put (by (refine Ok.toEx ?_; (repeat (first | (with_reducible exact Ok.rf _) | (with_reducible refine Ok.alloc ?_ _) | (with_reducible refine Ok.ex ?_ _) | (with_reducible refine Ok.drew ?_) | (with_reducible refine Ok.setCellI ?_ _ _ _) | (with_reducible refine Ok.exb ?_ _))))) (by omega) _) ⟨hO2, ⟨fun g o' m e => hFr g o' m e⟩, fun g o' m e => by have h9 := hrow5.lt g (by rw [e]; rfl); exact h9.2⟩⟩
      · have HN : Hid (rsL s = [] ∧ rsB s = false) := hid (rs_no fun l hl => by have h1 := hl.2; rw [← hend l hl, hR2] at h1; exact hRs h1)
        have hne : (R.toList == s.toList) = false := by
          cases h : R.toList == s.toList with
          | false => rfl
          | true => exact absurd (ba_ext (by rw [← ByteArray.toList_eq, ← ByteArray.toList_eq]; exact eq_of_beq h)) hRs
        clear hvl hend hso hR2
        go_wp2_with (first | (go_at_call 30; go_loud (refine (iValid_any A1 d1 out _ hcap hol).mono ?_); rw [HV.out]; rintro e w' ⟨rfl, k, rfl⟩) | (go_at_call 18; go_loud (refine (iscx_any A1 d1 out _ hcap hol hR).mono ?_); rintro e w' ⟨rfl, k2, rfl⟩))
        refine ⟨by simp, .inl ⟨D, _, rfl, run_takeDeferred (ds := []) ?_, ?_⟩⟩
        · (refine KeepsOthers.same (W := j0.v) ?_ _ _ hK rfl; (repeat (first | (with_reducible exact KeepsOthers.refl _) | (with_reducible refine KeepsOthers.trans ?_ (KeepsOthers.setCell _ _ _)) | (with_reducible refine KeepsOthers.trans ?_ (KeepsOthers.ex _)) | (with_reducible refine KeepsOthers.trans ?_ (KeepsOthers.alloc _ _)))))
        · refine ⟨.tuple #[.slice none 0 0, .bool false], by simp [results, Tryd.results10, go_sem, c2, c3, cell_putObjI], ?_⟩
          exact rsPost_no HN.out rfl (fin_put (by (refine Ok.toEx ?_; (repeat (first | (with_reducible exact Ok.rf _) | (with_reducible refine Ok.alloc ?_ _) | (with_reducible refine Ok.ex ?_ _) | (with_reducible refine Ok.drew ?_) | (with_reducible refine Ok.setCellI ?_ _ _ _) | (with_reducible refine Ok.exb ?_ _))))) (by omega) _)
  case stop =>
    rintro D W hD ⟨hno, out, r, hG⟩ hK
    have hG2 : RsG w out r (W.putObj D (.deferred none)) := hG.kept (grownBy_putObj' W D _) (fun r e => by cases e; exact ⟨by simp at hD; omega, _, hK, rfl⟩)
    have c2 := hG2.b2.cell
    have c3 := hG2.b3.cell
    simp only [Exit.inBlock, Exit.then]
    refine ⟨by simp, .inl ⟨_, _, rfl, run_takeDeferred hK, ?_⟩⟩
    refine ⟨.tuple #[.slice none 0 0, .bool false], by simp [results, Tryd.results10, go_sem, c2, c3], ?_⟩
    exact rsPost_no hno rfl ⟨Ex.of hG2.lo, rfl⟩
end
end Go.Proofs.YtonmeffhelaohaaDoor
namespace Go.Proofs.YtonmeffhelaohaaDoor
open Go.RowKit
theorem rs_oks (s : ByteArray) : Oks (rsL s) ∧ (rsL s).length ≤ 40 := by
  by_cases h : ∃ l, IsS s l
  · obtain ⟨l, hl⟩ := h
    rw [(rs_yes hl).1]
    have hv : okL l := by
      refine Classical.byContradiction fun hn => ?_
      have := hl.1
      rw [vL_no hn] at this
      cases this
    refine ⟨⟨fun x hx => ?_⟩, hv.1⟩
    have h1 := okL_one hl.1 x hx
    have h0 : (⟨#[]⟩ : ByteArray).size = 0 := rfl
    have h2 := vOne_kind h1
    have h3 := vOne_name h1
    unfold Ln.ok
    rcases h3 with ⟨k, _, v⟩ | ⟨k, n, v⟩ | ⟨k, _, v⟩ | ⟨k, _, v⟩ | ⟨k, n, v⟩
    · omega
    · rw [n]; omega
    · omega
    · omega
    · rw [n]; omega
  · rw [(rs_no fun l hl => h ⟨l, hl⟩).1]
    exact ⟨⟨fun _ h => by simp at h⟩, by simp⟩
section
set_option maxHeartbeats 3200000
set_option maxRecDepth 20000
theorem srs_any (s : ByteArray) (w : World) (hs : s.size ≤ 1048576) :
    Calls Tryd.prog 9 #[.string s] w (RsPost s w) := by
  obtain ⟨rl, hrl⟩ : ∃ rl, rsL s = rl := ⟨_, rfl⟩
  obtain ⟨rb, hrb⟩ : ∃ rb, rsB s = rb := ⟨_, rfl⟩
  have HA := hid (fun W => sReadS_any s W hs)
  unfold RsPost at HA ⊢
  rw [hrl, hrb] at HA ⊢
  clear hrl hrb
  go_enter Tryd.func9, Tryd.ntmps9
  go_wp2_with (go_at_call 26; (refine (HA.out _).mono ?_); rintro e w' ⟨A', c', rfl, k, rfl, h1, h2, h3⟩; have H1 := hid h1; have H2 := hid h2; have H3 := hid h3; clear h1 h2 h3)
  refine bodyPost_ret (v := _) (by simp [results, Tryd.results9, go_sem]; rfl) rfl ?_
  exact ⟨A', c', rfl, k, rfl, H1.out, H2.out, H3.out⟩
theorem lReadScript (s : ByteArray) (w : World) [Tb w] [Es w] [Er w] [Ml w] (hz : s.size ≤ 9223372036854775807) :
    Calls Tryd.prog 4 #[.string s] w fun e w' => e = .returned (.bool true) ∧ ∃ k : Ex w, w' = k.v := by
  by_cases hs : 1048576 < s.size
  · have hi : (1048576 : Int) < (s.size : Int) := by omega
    go_enter Tryd.func4, Tryd.ntmps4
    go_wp2_with (fail)
    (go_ret; refine ⟨by first | rfl | (simp; done), ?_⟩; (refine Ok.toEx ?_; (repeat (first | (with_reducible exact Ok.rf _) | (with_reducible refine Ok.alloc ?_ _) | (with_reducible refine Ok.ex ?_ _) | (with_reducible refine Ok.drew ?_) | (with_reducible refine Ok.setCellI ?_ _ _ _) | (with_reducible refine Ok.exb ?_ _)))))
  have hi : ¬ (1048576 : Int) < (s.size : Int) := by omega
  have hs : s.size ≤ 1048576 := by omega
  have HA := hid (fun W => srs_any s W hs)
  have HB := hid (fun (W : World) (h1 : Tb W) (h2 : Es W) (h3 : Er W) (h4 : Ml W) => iReadS_any s W hs)
  have hlen := rs_oks s
  unfold RsPost at HA HB
  generalize rsL s = rl at *
  generalize rsB s = rb at *
  obtain ⟨hok, hrl⟩ := hlen
  haveI := hok
  go_enter Tryd.func4, Tryd.ntmps4
  go_wp2_with (go_at_call 9; (refine (HA.out _).mono ?_); rintro e w' ⟨Aw, cw, rfl, k2, rfl, how, hfw, hiw⟩)
  go_wp2_with (go_at_call 10; (refine (HB.out _ inferInstance inferInstance inferInstance inferInstance).mono ?_); rintro e w' ⟨Ag, cg, rfl, k4, rfl, hog, hfg, hig⟩)
  go_wp2_with ((go_at_call 11; refine (eqLineS_any _ _ _ _ rl _).mono ?_; rintro e w' ⟨rfl, k5, rfl⟩))
  haveI hog5 : Ow 3 Ln.cells k5.v Ag rl := inferInstance
  go_wp2_with ((go_at_call 12; refine (markLineS_any k2.v _ _ _ _ _ (by omega) (by omega) (by omega)).mono ?_; rintro e w' ⟨rfl, k10, rfl, ho10, hb10⟩))
  go_wp2_with ((go_at_call 13; refine (heldLineS_any _ _ _ _ _ (by omega) (by omega) (by omega)).mono ?_; rintro e w' ⟨rfl, k11, rfl⟩))
  go_wp2_with (go_at_call 10; (refine (HB.out _ inferInstance inferInstance inferInstance inferInstance).mono ?_); rintro e w' ⟨Ah, ch, rfl, k13, rfl, hoh, hfh, hih⟩)
  go_wp2_with ((go_at_call 11; refine (eqLineS_any _ _ _ _ rl _).mono ?_; rintro e w' ⟨rfl, k14, rfl⟩))
  go_wp2_with ((go_at_call 13; refine (heldLineS_any _ _ _ _ _ (by omega) (by omega) (by omega)).mono ?_; rintro e w' ⟨rfl, k15, rfl⟩))
  all_goals (go_ret; refine ⟨by first | rfl | (simp; done), ?_⟩; (refine Ok.toEx ?_; (repeat (first | (with_reducible exact Ok.rf _) | (with_reducible refine Ok.alloc ?_ _) | (with_reducible refine Ok.ex ?_ _) | (with_reducible refine Ok.drew ?_) | (with_reducible refine Ok.setCellI ?_ _ _ _) | (with_reducible refine Ok.exb ?_ _)))))
end
end Go.Proofs.YtonmeffhelaohaaDoor
