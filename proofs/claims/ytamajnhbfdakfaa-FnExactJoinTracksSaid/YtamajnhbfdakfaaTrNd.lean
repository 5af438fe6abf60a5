/-
  NeedlessKeys, both. Conditions: those typed at each theorem.
-/
import Derived.Test.YtamajnhbfdakfaaTrZ
namespace Go.Proofs.Ytamajnhbfdakfaa
open Go.RowKit
theorem woK_get {l : List Ky} {i k : Nat} (hi : i < l.length) (hk : k < (woK l i).length) : (woK l i)[k] = if k < i then kyG l k else kyG l (k + 1) := by
  have hl := woK_len hi
  have ht : (l.take i).length = i := by rw [List.length_take]; omega
  have hk' : k < (l.take i ++ l.drop (i + 1)).length := hk
  show (l.take i ++ l.drop (i + 1))[k] = _
  by_cases h : k < i
  · rw [List.getElem_append_left (by omega), List.getElem_take, if_pos h, kyG_at]
  · rw [List.getElem_append_right (by omega), if_neg h, kyG_at (by omega)]
    simp only [ht, List.getElem_drop]
    congr 1
    omega
/-- keys without one -/
theorem VK.wo {l : List Ky} (h : VK l) {i : Nat} (hi : i < l.length) (h2 : 2 ≤ l.length) : VK (woK l i) := by
  have hl := woK_len hi
  obtain ⟨n1, n2⟩ := h.n
  refine ⟨by omega, fun k hk => ?_, fun k hk => ?_, fun a b hb hab => ?_⟩
  · rw [woK_get hi hk]
    split
    · exact (h.kg k (by omega)).1
    · exact (h.kg (k + 1) (by omega)).1
  · rw [woK_get hi hk]
    split
    · exact (h.kg k (by omega)).2
    · exact (h.kg (k + 1) (by omega)).2
  · have hr : ∀ x y, x < y → y < l.length → (kyG l x).t < (kyG l y).t := fun x y hxy hy => by rw [kyG_at (by omega), kyG_at hy]; exact h.ris x y hy hxy
    rw [woK_get hi hb, woK_get hi (by omega)]
    split <;> split
    · exact hr _ _ hab (by omega)
    · exact hr _ _ (by omega) (by omega)
    · exact hr _ _ (by omega) (by omega)
    · exact hr _ _ (by omega) (by omega)
/-- does key i change nothing? -/
def isNd (l : List Ky) (i : Nat) : Prop := 1 ≤ i ∧ vAt (woK l i) (kyG l i).t = (kyG l i).v
instance (l : List Ky) (i : Nat) : Decidable (isNd l i) := by unfold isNd; infer_instance
/-- the keys below k that change nothing -/
def ndF (l : List Ky) : Nat → List Int
  | 0 => []
  | k + 1 => ndF l k ++ (if isNd l k then [(k : Int)] else [])
theorem ndF_on {l : List Ky} {k : Nat} (h : isNd l k) : ndF l (k + 1) = ndF l k ++ [(k : Int)] := by simp [ndF, h]
theorem ndF_off {l : List Ky} {k : Nat} (h : ¬ isNd l k) : ndF l (k + 1) = ndF l k := by simp [ndF, h]
theorem ndF_one (l : List Ky) : ndF l 1 = [] := by rw [ndF_off (by unfold isNd; omega)]; rfl
theorem ndF_len (l : List Ky) : ∀ k, (ndF l k).length ≤ k
  | 0 => by simp [ndF]
  | k + 1 => by
    have := ndF_len l k
    unfold ndF
    split <;> simp <;> omega
/-- where the look ends -/
def ndN (l : List Ky) : Nat := if l.length ≤ 2 then 1 else l.length - 1
noncomputable def ndR (nm : ByteArray) (l : List Ky) : List Int := if vT nm l = true then ndF l (ndN l) else []
noncomputable def ndE (nm : ByteArray) (l : List Ky) : Int := if vT nm l = true then 0 else 1
theorem ndR_yes {nm : ByteArray} {l : List Ky} (h : vT nm l = true) : ndR nm l = ndF l (ndN l) ∧ ndE nm l = 0 := by unfold ndR ndE; rw [if_pos h, if_pos h]; exact ⟨rfl, rfl⟩
theorem ndR_no {nm : ByteArray} {l : List Ky} (h : vT nm l = false) : ndR nm l = [] ∧ ndE nm l = 1 := by unfold ndR ndE; rw [h]; exact ⟨rfl, rfl⟩
theorem ndR_len (nm : ByteArray) (l : List Ky) : (ndR nm l).length ≤ 24 := by
  unfold ndR
  split
  · rename_i h
    have h1 := (vT_of h).2.1
    have h2 := ndF_len l (ndN l)
    have h3 : ndN l ≤ 24 := by unfold ndN; split <;> omega
    omega
  · simp
section
set_option maxHeartbeats 3200000
set_option maxRecDepth 20000
theorem atN_any (A : Option Addr) (n c : Nat) (l : List Ky) (t : Int) (w : World) (hl : Rd 2 kC w A l) (hnl : l.length = n) (h : VK l) (ht : 0 ≤ t ∧ t ≤ 7200000) {v : Int} (hv : vAt l t = v) :
    Calls Try.prog 74 #[.slice A n c, .int .i64 t] w fun e w' => e = .returned (.int .i64 v) ∧ ∃ k : Ex w, w' = k.v := by
  subst hnl; subst hv; exact at_any A c l t w h ht
theorem valN_any (A : Option Addr) (n c : Nat) (l : List Ky) (t : Int) (w : World) (hl : Rd 2 kC w A l) (hnl : l.length = n) (h : VK l) (ht : 0 ≤ t ∧ t ≤ 7200000) {v : Int} (hv : vAt l t = v) :
    Calls Try.prog 75 #[.slice A n c, .int .i64 t] w fun e w' => e = .returned (.int .i64 v) ∧ ∃ k : Ex w, w' = k.v := by
  subst hnl; subst hv; exact valueAt_any A c l t w h ht
theorem sNd_any (nm : ByteArray) (A : Option Addr) (c : Nat) (l : List Ky) (w : World) [hl : Rd 2 kC w A l] (hs : nm.size ≤ maxLen) (hn : l.length ≤ 1048576) (hc : l.length ≤ c) :
    Calls Try.prog 47 #[.agg #[.string nm, .slice A l.length c]] w fun e w' => ∃ A' c', e = .returned (.tuple #[.slice A' (ndR nm l).length c', .int .i64 (ndE nm l)]) ∧ ∃ k : Ex w, w' = k.v ∧ Ow 1 iC k.v A' (ndR nm l) ∧ Fr w A' := by
  have HA := hid hl.kg
  cases hv : vT nm l
  · have HR := hid (ndR_no hv)
    go_enter Try.func47, Try.ntmps47
    go_wp2_with ((go_at_call 64; (refine (one_any nm A c l _ _ hs hn ?_ ?_).mono ?_); (· simp [go_sem]); (· simp [go_sem]); rw [hv]; rintro e w' ⟨rfl, k, rfl⟩))
    go_ret2
    rw [HR.out.1, HR.out.2]
    refine ⟨none, 0, by rfl, ex_and (fun W => Ow 1 iC W none ([] : List Int) ∧ Fr w none) (by (refine Ok.toEx ?_; (repeat (first | (with_reducible exact Ok.rf _) | (with_reducible refine Ok.alloc ?_ _) | (with_reducible refine Ok.ex ?_ _) | (with_reducible refine Ok.drew ?_) | (with_reducible refine Ok.setCellI ?_ _ _ _) | (with_reducible refine Ok.exb ?_ _))))) ⟨Ow.nil, inferInstance⟩⟩
  · have hk := (vT_of hv).2.vk
    obtain ⟨hk1, hk2⟩ := hk.n
    have HK := hid hk
    have HR := hid (ndR_yes hv)
    have HN : Hid (∀ q, 1 ≤ q → (q = 1 ∨ q + 1 ≤ l.length) → ¬ q + 1 < l.length → ndN l = q) := hid fun q h1 h2 h3 => by unfold ndN; split <;> omega
    go_enter Try.func47, Try.ntmps47
    go_wp2_with ((go_at_call 64; (refine (one_any nm A c l _ _ hs hn ?_ ?_).mono ?_); (· simp [go_sem]); (· simp [go_sem]); rw [hv]; rintro e w' ⟨rfl, k, rfl⟩))
    clear hv hk
    have hrow0 := hid (row_made k.v k.v.heap.size (Nat.le_refl _) 2 1 iC)
    go_loopw [4, 5] (fun v t wr => ∃ q : Nat, 1 ≤ q ∧ (q = 1 ∨ q + 1 ≤ l.length) ∧ t = .int .i64 q ∧ ∃ j : Ex k.v, wr = j.v ∧ j.v.ownsRow k.v.heap.size 2 1 v (ndF l q).length ((ndF l q).flatMap iC)) (fun _ t _ => l.length - (intOf t).toNat)
    case atStart => exact ⟨1, Nat.le_refl _, .inl rfl, rfl, ⟨_, (Below.refl _ _).alloc (Nat.le_refl _) _⟩, rfl, by rw [ndF_one]; exact hrow0.out⟩
    case round =>
      (obtain ⟨qq, hq1, hq2, rfl, j0, rfl, hrow⟩ := hrel; have hln := ndF_len l qq; obtain ⟨A1, c1, rfl, -, -⟩ := own_of_row (w0 := k.v) (f := iC) (fun _ => rfl) hrow; haveI hro : OwR k.v.heap.size 2 1 (.slice A1 (ndF l qq).length c1) (ndF l qq).length ((ndF l qq).flatMap iC) j0.v := ⟨hrow⟩; clear hrow)
      by_cases hlt : qq + 1 < l.length
      · have hlt2 : (qq : Int) + 1 < (l.length : Int) := by omega
        (obtain ⟨b', o, rfl, hbw, hc'⟩ := HA.out (by omega); have hb'k : LtW b' k.v := inferInstance; obtain ⟨c0, c1'⟩ := hc' qq (by omega); clear hc'; have hvw := hid (HK.out.wo (i := qq) (by omega) (by omega)); have hwl := hid (woK_len (l := l) (i := qq) (by omega)); have HT := hid (HK.out.kg qq (by omega)).1)
        have hz1 : (0 : Int) ≤ (qq : Int) := by omega
        have hz2 : (qq : Int) < (l.length : Int) := by omega
        by_cases hd : vAt (woK l qq) (kyG l qq).t = (kyG l qq).v
        · have HU := hid (ndF_on ⟨hq1, hd⟩)
          have hdb : (vAt (woK l qq) (kyG l qq).t == (kyG l qq).v) = true := by rw [beq_iff_eq]; exact hd
          clear hd
          (generalize hV : vAt (woK l qq) (kyG l qq).t = V at *; have HV := hid hV; generalize hx : kyG l qq = x at *; have HX := hid hx; clear hV hx)
          go_wp2_with (fail)
          go_region_held3 (fun W => W.cell? ⟨w.heap.size, 0, none⟩ = some (.string nm) ∧ W.cell? ⟨w.heap.size, 1, none⟩ = some (.slice (some ⟨b', o, none⟩) l.length c) ∧ W.cell? ⟨b', o + qq * 2, none⟩ = some (.int .i64 x.t) ∧ W.cell? ⟨b', o + qq * 2 + 1, none⟩ = some (.int .i64 x.v)) ((refine ⟨?_, ?_, ?_, ?_⟩ <;> simp [go_sem, *])) ((first | (go_at_call 84; (with_reducible refine (wo_wr _ c l.length l qq _ ?_ ?_ ?_ ?_ ?_).mono ?_); (· rfl); (· omega); (· omega); (· omega); (· exact hc); rintro e w' ⟨g, c9, rfl, k9, rfl, hw9, hg9⟩) | (go_at_call 74; (with_reducible refine (atN_any _ _ _ (woK l qq) _ _ ?_ hwl.out hvw.out HT.out HV.out).mono ?_); (· infer_instance); rintro e w' ⟨rfl, k8, rfl⟩)))
          all_goals
            go_wp2_with ((at_builtin; go_loud (refine wpList_app iC _ rfl _ _ _ rfl k.v _ _ _ _ Try.underlying53 infoI64 rfl (by omega) (fun _ => ⟨rfl, by simp [iC, Value.oneCell']⟩) (.slice A1 (ndF l qq).length c1) (ndF l qq) rfl owR_h (qq : Int) _ _ rfl (cell1 _ _ _) (by omega) (by omega) ?_; intro v1 k1 h1')))
            go_roundw
            case rel => exact ⟨qq + 1, by omega, by omega, by go_num, k1, rfl, by rw [HU.out]; exact h1'⟩
            case measure => simp [intOf]; omega
        · have HU := hid (ndF_off (l := l) (k := qq) (fun h => hd h.2))
          have hdb : (vAt (woK l qq) (kyG l qq).t == (kyG l qq).v) = false := by rw [beq_eq_false_iff_ne]; exact hd
          clear hd
          (generalize hV : vAt (woK l qq) (kyG l qq).t = V at *; have HV := hid hV; generalize hx : kyG l qq = x at *; have HX := hid hx; clear hV hx)
          go_wp2_with (fail)
          go_region_held3 (fun W => W.cell? ⟨w.heap.size, 0, none⟩ = some (.string nm) ∧ W.cell? ⟨w.heap.size, 1, none⟩ = some (.slice (some ⟨b', o, none⟩) l.length c) ∧ W.cell? ⟨b', o + qq * 2, none⟩ = some (.int .i64 x.t) ∧ W.cell? ⟨b', o + qq * 2 + 1, none⟩ = some (.int .i64 x.v)) ((refine ⟨?_, ?_, ?_, ?_⟩ <;> simp [go_sem, *])) ((first | (go_at_call 84; (with_reducible refine (wo_wr _ c l.length l qq _ ?_ ?_ ?_ ?_ ?_).mono ?_); (· rfl); (· omega); (· omega); (· omega); (· exact hc); rintro e w' ⟨g, c9, rfl, k9, rfl, hw9, hg9⟩) | (go_at_call 74; (with_reducible refine (atN_any _ _ _ (woK l qq) _ _ ?_ hwl.out hvw.out HT.out HV.out).mono ?_); (· infer_instance); rintro e w' ⟨rfl, k8, rfl⟩)))
          all_goals
            go_wp2
            go_roundw
            case rel => exact ⟨qq + 1, by omega, by omega, by go_num, ex_and (fun W => W.ownsRow k.v.heap.size 2 1 _ (ndF l (qq + 1)).length ((ndF l (qq + 1)).flatMap iC)) (by (refine Ok.toEx ?_; (repeat (first | (with_reducible exact Ok.rf _) | (with_reducible refine Ok.alloc ?_ _) | (with_reducible refine Ok.ex ?_ _) | (with_reducible refine Ok.drew ?_) | (with_reducible refine Ok.setCellI ?_ _ _ _) | (with_reducible refine Ok.exb ?_ _))))) (by rw [HU.out]; exact owR_h)⟩
            case measure => simp [intOf]; omega
      · have HE := hid (HN.out qq hq1 hq2 hlt)
        go_wp2
        go_ret2
        obtain ⟨A2, c2, he, hO2, hF2⟩ := own_of_row (w0 := k.v) (f := iC) (fun _ => rfl) hro.h
        cases he
        rw [HR.out.1, HR.out.2, HE.out]
        exact ⟨A1, c1, by rfl, ex_and (fun W => Ow 1 iC W A1 (ndF l qq) ∧ Fr w A1) (by (refine Ok.toEx ?_; (repeat (first | (with_reducible exact Ok.rf _) | (with_reducible refine Ok.alloc ?_ _) | (with_reducible refine Ok.ex ?_ _) | (with_reducible refine Ok.drew ?_) | (with_reducible refine Ok.setCellI ?_ _ _ _) | (with_reducible refine Ok.exb ?_ _))))) ⟨hO2, hF2.mono⟩⟩
end
end Go.Proofs.Ytamajnhbfdakfaa
