/-
  SlowTrack. Conditions: those typed at each theorem.
  The law of SlowTrack. Conditions: those typed at each theorem.
  Keys without one: l14Without. Conditions: those typed at each theorem.
  DropKey of the specification. Conditions: those typed at each theorem.
  DropKey of the program: the search of the key. Conditions: those typed at each theorem.
  slices.Delete of elements of an own row. Conditions: those typed at each theorem.
  DropKey of the program. Conditions: those typed at each theorem.
  NeedlessKeys, both. Conditions: those typed at each theorem.
  CutTrack, both. Conditions: those typed at each theorem.
  Plain laws of tracks: values lie between those of the keys; a part of a track; moving back; a slow track is slow. Conditions: those typed at each theorem.
-/
import Derived.Test.YtdhflckombkimaaDoorT22
import Derived.Laws.Small
import Derived.Test.YtdhflckombkimaaDoorT10
import Derived.Deep.RegionLaw
import Derived.Lib.SliceRun
import Derived.Test.YtdhflckombkimaaDoorT9
import Derived.Test.YtdhflckombkimaaDoorT18
namespace Go.Proofs.YtdhflckombkimaaDoor
open Go.RowKit
/-- the time that passes between keys k and k + 1 of the slow track -/
def slM (l : List Ky) (s : Int) (k : Nat) : Int := if (kyG l (k + 1)).t - (kyG l k).t < upI (aI ((kyG l (k + 1)).v - (kyG l k).v) * 1000) s then upI (aI ((kyG l (k + 1)).v - (kyG l k).v) * 1000) s else (kyG l (k + 1)).t - (kyG l k).t
theorem slM_hi {l : List Ky} {s : Int} {k : Nat} (h : (kyG l (k + 1)).t - (kyG l k).t < upI (aI ((kyG l (k + 1)).v - (kyG l k).v) * 1000) s) : slM l s k = upI (aI ((kyG l (k + 1)).v - (kyG l k).v) * 1000) s := by unfold slM; rw [if_pos h]
theorem slM_lo {l : List Ky} {s : Int} {k : Nat} (h : ¬ (kyG l (k + 1)).t - (kyG l k).t < upI (aI ((kyG l (k + 1)).v - (kyG l k).v) * 1000) s) : slM l s k = (kyG l (k + 1)).t - (kyG l k).t := by unfold slM; rw [if_neg h]
/-- the time of key k of the slow track -/
def slT (l : List Ky) (s : Int) : Nat → Int
  | 0 => (kyG l 0).t
  | k + 1 => slT l s k + slM l s k
/-- the keys with the first q slowed -/
def slF (l : List Ky) (s : Int) (q : Nat) : Nat → Ky := fun k => if k < q then ⟨slT l s k, (kyG l k).v⟩ else kyG l k
def slK (l : List Ky) (s : Int) : List Ky := (List.range l.length).map fun k => ⟨slT l s k, (kyG l k).v⟩
theorem slK_len (l : List Ky) (s : Int) : (slK l s).length = l.length := by simp [slK]
theorem slF_one (l : List Ky) (s : Int) : slF l s 1 = kyG l := by
  funext k
  unfold slF
  by_cases h : k < 1
  · obtain rfl : k = 0 := by omega
    simp [slT]
  · rw [if_neg h]
theorem slF_nx (l : List Ky) (s : Int) (p : Nat) : slF l s (p + 1) (p + 1) = kyG l (p + 1) := by simp [slF]
theorem slF_pr (l : List Ky) (s : Int) (p : Nat) : slF l s (p + 1) p = ⟨slT l s p, (kyG l p).v⟩ := by simp [slF]
theorem slF_step (l : List Ky) (s : Int) (p : Nat) : updT (slF l s (p + 1)) (p + 1) (slT l s p + slM l s p) = slF l s (p + 1 + 1) := by
  funext k
  unfold updT
  by_cases h : k = p + 1
  · subst h; rw [if_pos rfl, slF_nx, slF_pr]; rfl
  · rw [if_neg h]
    unfold slF
    by_cases h2 : k < p + 1
    · rw [if_pos h2, if_pos (by omega)]
    · rw [if_neg h2, if_neg (by omega)]
theorem slF_end {l : List Ky} {s : Int} {k : Nat} (hk : k < (slK l s).length) : (slK l s)[k] = slF l s l.length k := by
  have hk' : k < l.length := by rwa [slK_len] at hk
  simp [slK, slF, hk']
noncomputable def slR (nm : ByteArray) (l : List Ky) (d : Int) : TR3 := if vT nm l = true then (if 1 ≤ d ∧ d ≤ 1000000 then trChk nm (slK l d) else trErr 2) else trErr 1
theorem slR_inv {nm : ByteArray} {l : List Ky} {d : Int} (h : vT nm l = false) : slR nm l d = trErr 1 := by unfold slR; rw [h]; rfl
theorem slR_rng {nm : ByteArray} {l : List Ky} {d : Int} (h : vT nm l = true) (hd : ¬ (1 ≤ d ∧ d ≤ 1000000)) : slR nm l d = trErr 2 := by unfold slR; rw [if_pos h, if_neg hd]
theorem slR_go {nm : ByteArray} {l : List Ky} {d : Int} (h : vT nm l = true) (hd : 1 ≤ d ∧ d ≤ 1000000) : slR nm l d = trChk nm (slK l d) := by unfold slR; rw [if_pos h, if_pos hd]
theorem slR_len (nm : ByteArray) (l : List Ky) (d : Int) : (slR nm l d).l.length ≤ 24 := by
  unfold slR
  split
  · split
    · exact trChk_len _ _
    · simp [trErr]
  · simp [trErr]
theorem sl_bd {a b s : Int} (ha : -1000000 ≤ a ∧ a ≤ 1000000) (hb : -1000000 ≤ b ∧ b ≤ 1000000) (hs : 1 ≤ s) : (0 ≤ aI (b - a) ∧ aI (b - a) ≤ 2000000) ∧ 0 ≤ upI (aI (b - a) * 1000) s ∧ upI (aI (b - a) * 1000) s ≤ 2000000000 := by
  have h1 := aI_bd (n := b - a) (M := 2000000) (by omega) (by omega)
  exact ⟨h1, upI_bd (by omega) (by omega) (by omega)⟩
theorem slT_bd {l : List Ky} (h : VK l) {s : Int} (hs : 1 ≤ s) : ∀ p : Nat, p < l.length → 0 ≤ slT l s p ∧ slT l s p ≤ 7200000 + (p : Int) * 3000000000
  | 0, hp => by
    have := h.kg 0 hp
    unfold slT
    omega
  | p + 1, hp => by
    have h1 := slT_bd h hs p (by omega)
    have h2 := h.kg p (by omega)
    have h3 := h.kg (p + 1) hp
    have h4 := h.kgr p hp
    have h5 := sl_bd (s := s) h2.2 h3.2 hs
    unfold slT
    by_cases hx : (kyG l (p + 1)).t - (kyG l p).t < upI (aI ((kyG l (p + 1)).v - (kyG l p).v) * 1000) s
    · rw [slM_hi hx]; omega
    · rw [slM_lo hx]; omega
theorem But.al {A : Option Addr} {w w' : World} (h : But A w w') (o : Obj) : But A w (w'.alloc o) := But.ex h (Ex.of ((Below.refl _ _).alloc (Nat.le_refl _) o))
section
set_option maxHeartbeats 3200000
set_option maxRecDepth 20000
end
end Go.Proofs.YtdhflckombkimaaDoor
namespace Go.Proofs.YtdhflckombkimaaDoor
open Go.RowKit
section
set_option maxHeartbeats 3200000
set_option maxRecDepth 20000
end
end Go.Proofs.YtdhflckombkimaaDoor
namespace Go.Proofs.YtdhflckombkimaaDoor
open Go.RowKit
/-- the keys without key i -/
def woK (l : List Ky) (i : Nat) : List Ky := l.take i ++ l.drop (i + 1)
theorem woK_len {l : List Ky} {i : Nat} (h : i < l.length) : (woK l i).length = l.length - 1 := by unfold woK; rw [List.length_append, List.length_take, List.length_drop]; omega
section
set_option maxHeartbeats 3200000
set_option maxRecDepth 20000
end
end Go.Proofs.YtdhflckombkimaaDoor
namespace Go.Proofs.YtdhflckombkimaaDoor
open Go.RowKit
/-- where the key of a time stands, or the length -/
def dI (l : List Ky) (t : Int) : Nat := l.findIdx fun k => decide (k.t = t)
theorem dI_hit {l : List Ky} {t : Int} {q : Nat} (h : q < l.length) (he : (kyG l q).t = t) (hb : ∀ j, j < q → (kyG l j).t ≠ t) : dI l t = q := by
  unfold dI
  rw [List.findIdx_eq h]
  refine ⟨by rw [kyG_at h] at he; simpa using he, fun j hj => ?_⟩
  have := hb j hj
  rw [kyG_at (by omega)] at this
  simpa using this
theorem dI_miss {l : List Ky} {t : Int} (hb : ∀ j, j < l.length → (kyG l j).t ≠ t) : dI l t = l.length := by
  unfold dI
  rw [List.findIdx_eq_length]
  intro x hx
  obtain ⟨j, hj, rfl⟩ := List.getElem_of_mem hx
  have := hb j hj
  rw [kyG_at hj] at this
  simpa using this
/-- what DropKey answers -/
noncomputable def drR (nm : ByteArray) (l : List Ky) (t : Int) : TR3 := if vT nm l = true then (if dI l t < l.length then (if l.length = 1 then trErr 6 else ⟨nm, woK l (dI l t), 0⟩) else trErr 3) else trErr 1
theorem drR_inv {nm : ByteArray} {l : List Ky} {t : Int} (h : vT nm l = false) : drR nm l t = trErr 1 := by unfold drR; rw [h]; rfl
theorem drR_miss {nm : ByteArray} {l : List Ky} {t : Int} (h : vT nm l = true) (hb : ∀ j, j < l.length → (kyG l j).t ≠ t) : drR nm l t = trErr 3 := by unfold drR; rw [if_pos h, dI_miss hb, if_neg (by omega)]
theorem drR_one {nm : ByteArray} {l : List Ky} {t : Int} {q : Nat} (h : vT nm l = true) (hq : q < l.length) (he : (kyG l q).t = t) (hb : ∀ j, j < q → (kyG l j).t ≠ t) (h1 : l.length = 1) : drR nm l t = trErr 6 := by unfold drR; rw [if_pos h, dI_hit hq he hb, if_pos hq, if_pos h1]
theorem drR_go {nm : ByteArray} {l : List Ky} {t : Int} {q : Nat} (h : vT nm l = true) (hq : q < l.length) (he : (kyG l q).t = t) (hb : ∀ j, j < q → (kyG l j).t ≠ t) (h1 : l.length ≠ 1) : drR nm l t = ⟨nm, woK l q, 0⟩ := by unfold drR; rw [if_pos h, dI_hit hq he hb, if_pos hq, if_neg h1]
theorem drR_len (nm : ByteArray) (l : List Ky) (t : Int) : (drR nm l t).l.length ≤ 24 := by
  unfold drR
  split
  · rename_i h
    have := (vT_of h).2.1.2
    split
    · rename_i h2
      split
      · simp [trErr]
      · show (woK l (dI l t)).length ≤ 24
        rw [woK_len h2]; omega
    · simp [trErr]
  · simp [trErr]
section
set_option maxHeartbeats 3200000
set_option maxRecDepth 20000
end
end Go.Proofs.YtdhflckombkimaaDoor
namespace Go.Proofs.YtdhflckombkimaaDoor
open Go.RowKit
/-- where the key of a time stands, or -1 -/
def dII (l : List Ky) (t : Int) : Int := if dI l t < l.length then (dI l t : Int) else -1
theorem dII_hit {l : List Ky} {t : Int} {q : Nat} (h : q < l.length) (he : (kyG l q).t = t) (hb : ∀ j, j < q → (kyG l j).t ≠ t) : dII l t = q := by unfold dII; rw [dI_hit h he hb, if_pos h]
theorem dII_miss {l : List Ky} {t : Int} (hb : ∀ j, j < l.length → (kyG l j).t ≠ t) : dII l t = -1 := by unfold dII; rw [dI_miss hb, if_neg (by omega)]
section
set_option maxHeartbeats 3200000
set_option maxRecDepth 20000
end
end Go.Proofs.YtdhflckombkimaaDoor
namespace Go.Proofs.YtdhflckombkimaaDoor
open Go.RowKit
section
set_option maxHeartbeats 3200000
set_option maxRecDepth 20000
theorem zeroElt (w : World) : (zeroValue 58).run Tryd.prog w = .ok (.agg #[.int .i64 0, .int .i64 0]) w := by rfl
theorem clear_one {n : Nat} (hn : n = 1) (w : World) (ty : TypeId) (b o c : Nat) (hc : ∀ j, j < 2 → (w.cell? ⟨b, o + j, none⟩).isSome = true) (hf : ∀ j, j < 2 → w.frozen? ⟨b, o + j, none⟩ = false) :
    (Builtin.clear_ #[28] ty #[.slice (some ⟨b, o, none⟩) n c]).run Tryd.prog w = .ok (.tuple #[]) (w.setCells b o [.int .i64 0, .int .i64 0]) := by
  subst hn
  have hst := run_storeCells_cells (P := Tryd.prog) b o [.int .i64 0, .int .i64 0] 0 w (by simpa using hc) (by simpa using hf) (by intro v hv; simp at hv; repeat (first | (subst hv; rfl) | (rcases hv with hv | hv)))
  simp only [Nat.add_zero] at hst
  have hz : (Builtin.zeroCells (Value.agg #[.int .i64 0, .int .i64 0]).cells 1).toList = [.int .i64 0, .int .i64 0] := by
    have h : (Value.agg #[.int .i64 0, .int .i64 0]).cells = #[.int .i64 0, .int .i64 0] := by first | rfl | kernel_rfl | simp [Value.cells]
    rw [h]; (first | rfl | kernel_rfl | simp [Builtin.zeroCells, List.range_succ])
  simp [Builtin.clear_, run_underlying Tryd.underlying28, hz, hst]
theorem wsetCells (b : Nat) : ∀ (vs : List Value) (p : Nat) (w : World), w.setCells b p vs = setCells w b p vs
  | [], _, _ => rfl
  | v :: vs, p, w => wsetCells b vs (p + 1) _
theorem up_setCells {W0 : World} {b : Nat} [hb : LeB W0.heap.size b] : ∀ (vs : List Value) (p : Nat) (w : World), Up W0 w → Up W0 (setCells w b p vs)
  | [], _, _, h => h
  | v :: vs, p, w, h => up_setCells vs (p + 1) _ (Up.set b p v)
theorem but_setCells {b : Nat} {w : World} : ∀ (vs : List Value) (p : Nat) (w' : World), But (some ⟨b, 0, none⟩) w w' → But (some ⟨b, 0, none⟩) w (setCells w' b p vs)
  | [], _, _, h => h
  | v :: vs, p, w', h => but_setCells vs (p + 1) _ (h.set p v)
end
end Go.Proofs.YtdhflckombkimaaDoor
namespace Go.Proofs.YtdhflckombkimaaDoor
open Go.RowKit
theorem dI_part (l : List Ky) (t : Int) : (∃ q, q < l.length ∧ (kyG l q).t = t ∧ ∀ j, j < q → (kyG l j).t ≠ t) ∨ ∀ j, j < l.length → (kyG l j).t ≠ t := by
  by_cases h : dI l t < l.length
  · refine .inl ⟨dI l t, h, ?_, fun j hj => ?_⟩
    · have := List.findIdx_getElem (p := fun k : Ky => decide (k.t = t)) (xs := l) (w := h)
      rw [kyG_at h]
      exact of_decide_eq_true this
    · have := List.not_of_lt_findIdx (p := fun k : Ky => decide (k.t = t)) (xs := l) hj
      rw [kyG_at (Nat.lt_trans hj h)]
      simpa using this
  · refine .inr fun j hj => ?_
    have hj' : j < List.findIdx (fun k : Ky => decide (k.t = t)) l := by unfold dI at h; omega
    have := List.not_of_lt_findIdx (p := fun k : Ky => decide (k.t = t)) (xs := l) hj'
    rw [kyG_at hj]
    simpa using this
section
set_option maxHeartbeats 3200000
set_option maxRecDepth 20000
end
end Go.Proofs.YtdhflckombkimaaDoor
namespace Go.Proofs.YtdhflckombkimaaDoor
open Go.RowKit
theorem woK_get {l : List Ky} {i k : Nat} (hi : i < l.length) (hk : k < (woK l i).length) : (woK l i)[k] = if k < i then kyG l k else kyG l (k + 1) := by
  have hl := woK_len hi
  have ht : (l.take i).length = i := by rw [List.length_take]; omega
  have hk' : k < (l.take i ++ l.drop (i + 1)).length := hk
  show (l.take i ++ l.drop (i + 1))[k] = _
  by_cases h : k < i
  · rw [List.getElem_append_left (by omega), List.getElem_take, if_pos h, kyG_at]
  · rw [List.getElem_append_right (by omega), if_neg h, kyG_at (by omega)]
    simp only [ht, List.getElem_drop]
    congr 1
    omega
/-- keys without one -/
theorem VK.wo {l : List Ky} (h : VK l) {i : Nat} (hi : i < l.length) (h2 : 2 ≤ l.length) : VK (woK l i) := by
  have hl := woK_len hi
  obtain ⟨n1, n2⟩ := h.n
  refine ⟨by omega, fun k hk => ?_, fun k hk => ?_, fun a b hb hab => ?_⟩
  · rw [woK_get hi hk]
    split
    · exact (h.kg k (by omega)).1
    · exact (h.kg (k + 1) (by omega)).1
  · rw [woK_get hi hk]
    split
    · exact (h.kg k (by omega)).2
    · exact (h.kg (k + 1) (by omega)).2
  · have hr : ∀ x y, x < y → y < l.length → (kyG l x).t < (kyG l y).t := fun x y hxy hy => by rw [kyG_at (by omega), kyG_at hy]; exact h.ris x y hy hxy
    rw [woK_get hi hb, woK_get hi (by omega)]
    split <;> split
    · exact hr _ _ hab (by omega)
    · exact hr _ _ (by omega) (by omega)
    · exact hr _ _ (by omega) (by omega)
    · exact hr _ _ (by omega) (by omega)
/-- does key i change nothing? -/
def isNd (l : List Ky) (i : Nat) : Prop := 1 ≤ i ∧ vAt (woK l i) (kyG l i).t = (kyG l i).v
instance (l : List Ky) (i : Nat) : Decidable (isNd l i) := by unfold isNd; infer_instance
/-- the keys below k that change nothing -/
def ndF (l : List Ky) : Nat → List Int
  | 0 => []
  | k + 1 => ndF l k ++ (if isNd l k then [(k : Int)] else [])
theorem ndF_on {l : List Ky} {k : Nat} (h : isNd l k) : ndF l (k + 1) = ndF l k ++ [(k : Int)] := by simp [ndF, h]
theorem ndF_off {l : List Ky} {k : Nat} (h : ¬ isNd l k) : ndF l (k + 1) = ndF l k := by simp [ndF, h]
theorem ndF_one (l : List Ky) : ndF l 1 = [] := by rw [ndF_off (by unfold isNd; omega)]; rfl
theorem ndF_len (l : List Ky) : ∀ k, (ndF l k).length ≤ k
  | 0 => by simp [ndF]
  | k + 1 => by
    have := ndF_len l k
    unfold ndF
    split <;> simp <;> omega
/-- where the look ends -/
def ndN (l : List Ky) : Nat := if l.length ≤ 2 then 1 else l.length - 1
noncomputable def ndR (nm : ByteArray) (l : List Ky) : List Int := if vT nm l = true then ndF l (ndN l) else []
noncomputable def ndE (nm : ByteArray) (l : List Ky) : Int := if vT nm l = true then 0 else 1
theorem ndR_yes {nm : ByteArray} {l : List Ky} (h : vT nm l = true) : ndR nm l = ndF l (ndN l) ∧ ndE nm l = 0 := by unfold ndR ndE; rw [if_pos h, if_pos h]; exact ⟨rfl, rfl⟩
theorem ndR_no {nm : ByteArray} {l : List Ky} (h : vT nm l = false) : ndR nm l = [] ∧ ndE nm l = 1 := by unfold ndR ndE; rw [h]; exact ⟨rfl, rfl⟩
theorem ndR_len (nm : ByteArray) (l : List Ky) : (ndR nm l).length ≤ 24 := by
  unfold ndR
  split
  · rename_i h
    have h1 := (vT_of h).2.1
    have h2 := ndF_len l (ndN l)
    have h3 : ndN l ≤ 24 := by unfold ndN; split <;> omega
    omega
  · simp
section
set_option maxHeartbeats 3200000
set_option maxRecDepth 20000
theorem valN_any (A : Option Addr) (n c : Nat) (l : List Ky) (t : Int) (w : World) (hl : Rd 2 kC w A l) (hnl : l.length = n) (h : VK l) (ht : 0 ≤ t ∧ t ≤ 7200000) {v : Int} (hv : vAt l t = v) :
    Calls Tryd.prog 64 #[.slice A n c, .int .i64 t] w fun e w' => e = .returned (.int .i64 v) ∧ ∃ k : Ex w, w' = k.v := by
  subst hnl; subst hv; exact valueAt_any A c l t w h ht
end
end Go.Proofs.YtdhflckombkimaaDoor
namespace Go.Proofs.YtdhflckombkimaaDoor
open Go.RowKit
/-- the keys between two times, of the first k, with one ahead -/
def cutP (l : List Ky) (f u : Int) : Nat → List Ky
  | 0 => [⟨0, vAt l f⟩]
  | k + 1 => cutP l f u k ++ (if f < (kyG l k).t ∧ (kyG l k).t < u then [⟨(kyG l k).t - f, (kyG l k).v⟩] else [])
theorem cutP_on {l : List Ky} {f u : Int} {k : Nat} (h1 : f < (kyG l k).t) (h2 : (kyG l k).t < u) : cutP l f u (k + 1) = cutP l f u k ++ [⟨(kyG l k).t - f, (kyG l k).v⟩] := by simp [cutP, h1, h2]
theorem cutP_off {l : List Ky} {f u : Int} {k : Nat} (h : ¬ (f < (kyG l k).t ∧ (kyG l k).t < u)) : cutP l f u (k + 1) = cutP l f u k := by simp [cutP, h]
theorem cutP_len (l : List Ky) (f u : Int) : ∀ k, (cutP l f u k).length ≤ k + 1
  | 0 => by simp [cutP]
  | k + 1 => by
    have := cutP_len l f u k
    unfold cutP
    split <;> simp <;> omega
def cutA (l : List Ky) (f u : Int) : List Ky := cutP l f u l.length ++ [⟨u - f, vAt l u⟩]
theorem cutA_len (l : List Ky) (f u : Int) : 1 ≤ (cutA l f u).length ∧ (cutA l f u).length ≤ l.length + 2 := by
  have := cutP_len l f u l.length
  unfold cutA
  rw [List.length_append]
  exact ⟨by simp, by simp; omega⟩
def cutOk (f u : Int) : Prop := (0 ≤ f ∧ f ≤ 7200000) ∧ (0 ≤ u ∧ u ≤ 7200000) ∧ f < u
instance (f u : Int) : Decidable (cutOk f u) := by unfold cutOk; infer_instance
theorem cutOk_not {f u : Int} (h : ¬ cutOk f u) : (f < 0 ∨ 7200000 < f) ∨ ((0 ≤ f ∧ f ≤ 7200000) ∧ (u < 0 ∨ 7200000 < u)) ∨ ((0 ≤ f ∧ f ≤ 7200000) ∧ (0 ≤ u ∧ u ≤ 7200000) ∧ u ≤ f) := by unfold cutOk at h; omega
/-- what CutTrack answers -/
noncomputable def cutR (nm : ByteArray) (l : List Ky) (f u : Int) : TR3 := if vT nm l = true then (if cutOk f u then (if 24 < (cutA l f u).length then trErr 5 else ⟨nm, cutA l f u, 0⟩) else trErr 2) else trErr 1
theorem cutR_inv {nm : ByteArray} {l : List Ky} {f u : Int} (h : vT nm l = false) : cutR nm l f u = trErr 1 := by unfold cutR; rw [h]; rfl
theorem cutR_rng {nm : ByteArray} {l : List Ky} {f u : Int} (h : vT nm l = true) (hd : ¬ cutOk f u) : cutR nm l f u = trErr 2 := by unfold cutR; rw [if_pos h, if_neg hd]
theorem cutR_full {nm : ByteArray} {l : List Ky} {f u : Int} (h : vT nm l = true) (hd : cutOk f u) (hf : 24 < (cutA l f u).length) : cutR nm l f u = trErr 5 := by unfold cutR; rw [if_pos h, if_pos hd, if_pos hf]
theorem cutR_go {nm : ByteArray} {l : List Ky} {f u : Int} (h : vT nm l = true) (hd : cutOk f u) (hf : ¬ 24 < (cutA l f u).length) : cutR nm l f u = ⟨nm, cutA l f u, 0⟩ := by unfold cutR; rw [if_pos h, if_pos hd, if_neg hf]
theorem cutR_len (nm : ByteArray) (l : List Ky) (f u : Int) : (cutR nm l f u).l.length ≤ 24 := by
  unfold cutR
  split
  · split
    · split
      · simp [trErr]
      · rename_i h; show (cutA l f u).length ≤ 24; omega
    · simp [trErr]
  · simp [trErr]
theorem row_one (w : World) (e : TypeId) (x : Ky) : (w.alloc (.cells #[.int .i64 x.t, .int .i64 x.v] e)).ownsRow w.heap.size e 2 (.slice (some ⟨w.heap.size, 0, none⟩) 1 1) [x].length ([x].flatMap kC) :=
  ⟨by simp [kC], .inr ⟨w.heap.size, 1, #[.int .i64 x.t, .int .i64 x.v], rfl, Nat.le_refl _, heap_alloc_new w _, Nat.le_refl _, by simp [maxLen], rfl, by simp [kC]⟩⟩
section
set_option maxHeartbeats 3200000
set_option maxRecDepth 20000
end
end Go.Proofs.YtdhflckombkimaaDoor
namespace Go.Proofs.YtdhflckombkimaaDoor
open Go.RowKit
theorem near_close (a : Int) {b : Int} (h : 0 < b) : -b ≤ 2 * (a - near a b * b) ∧ 2 * (a - near a b * b) ≤ b := by
  unfold near
  split
  · have e := Int.mul_ediv_add_emod (b - 2 * a) (2 * b)
    have r0 := Int.emod_nonneg (b - 2 * a) (show 2 * b ≠ 0 by omega)
    have r1 := Int.emod_lt_of_pos (b - 2 * a) (show 0 < 2 * b by omega)
    generalize (b - 2 * a) / (2 * b) = q at *
    generalize (b - 2 * a) % (2 * b) = r at *
    rw [Int.neg_mul]
    rw [show 2 * b * q = 2 * (q * b) by rw [Int.mul_assoc, Int.mul_comm b q]] at e
    generalize q * b = p at *
    omega
  · have e := Int.mul_ediv_add_emod (2 * a + b) (2 * b)
    have r0 := Int.emod_nonneg (2 * a + b) (show 2 * b ≠ 0 by omega)
    have r1 := Int.emod_lt_of_pos (2 * a + b) (show 0 < 2 * b by omega)
    generalize (2 * a + b) / (2 * b) = q at *
    generalize (2 * a + b) % (2 * b) = r at *
    rw [show 2 * b * q = 2 * (q * b) by rw [Int.mul_assoc, Int.mul_comm b q]] at e
    generalize q * b = p at *
    omega
theorem mul_le {a b c : Int} (h : a ≤ b) (hc : 0 < c) : a * c ≤ b * c := Int.mul_le_mul_of_nonneg_right h (Int.le_of_lt hc)
theorem near_up {x d b : Int} (hb : 0 < b) (h0 : 0 ≤ x) (h1 : x ≤ d * b) : 0 ≤ near x b ∧ near x b ≤ d := by
  obtain ⟨c1, c2⟩ := near_close x hb
  refine ⟨?_, ?_⟩
  · rcases Int.lt_or_le (near x b) 0 with h | h
    · have := mul_le (show near x b ≤ -1 by omega) hb
      omega
    · exact h
  · rcases Int.lt_or_le d (near x b) with h | h
    · have := mul_le (show d + 1 ≤ near x b by omega) hb
      rw [Int.add_mul] at this
      omega
    · exact h
theorem near_dn {x d b : Int} (hb : 0 < b) (h0 : x ≤ 0) (h1 : d * b ≤ x) : d ≤ near x b ∧ near x b ≤ 0 := by
  obtain ⟨c1, c2⟩ := near_close x hb
  refine ⟨?_, ?_⟩
  · rcases Int.lt_or_le (near x b) d with h | h
    · have := mul_le (show near x b ≤ d - 1 by omega) hb
      rw [Int.sub_mul] at this
      omega
    · exact h
  · rcases Int.lt_or_le 0 (near x b) with h | h
    · have := mul_le (show 1 ≤ near x b by omega) hb
      omega
    · exact h
theorem segv_btw {a b : Ky} {t lo hi : Int} (h1 : a.t < b.t) (h2 : a.t ≤ t) (h3 : t ≤ b.t) (ha : lo ≤ a.v ∧ a.v ≤ hi) (hb : lo ≤ b.v ∧ b.v ≤ hi) : lo ≤ segv a b t ∧ segv a b t ≤ hi := by
  unfold segv
  have hd : 0 < b.t - a.t := by omega
  rcases Int.le_total 0 (b.v - a.v) with h | h
  · have e1 := Int.mul_nonneg h (show 0 ≤ t - a.t by omega)
    have e2 := Int.mul_le_mul_of_nonneg_left (show t - a.t ≤ b.t - a.t by omega) h
    have := near_up hd e1 e2
    omega
  · have e1 := Int.mul_nonpos_of_nonpos_of_nonneg h (show 0 ≤ t - a.t by omega)
    have e2 := Int.mul_le_mul_of_nonpos_left (a := b.v - a.v) (b := b.t - a.t) (c := t - a.t) h (show t - a.t ≤ b.t - a.t by omega)
    have := near_dn hd e1 e2
    omega
/-- values lie between those of the keys -/
theorem vAt_btw {l : List Ky} (hr : risK l) (h0 : 0 < l.length) {lo hi : Int} (t : Int) (hb : ∀ x ∈ l, lo ≤ x.v ∧ x.v ≤ hi) : lo ≤ vAt l t ∧ vAt l t ≤ hi := by
  cases hf : l.findIdx? (fun k => decide (t ≤ k.t)) with
  | none =>
    rw [List.findIdx?_eq_none_iff] at hf
    rw [vAt_last h0 (fun j hj => by have := hf _ (List.getElem_mem hj); simp at this; omega)]
    exact hb _ (List.getElem_mem _)
  | some i =>
    rw [List.findIdx?_eq_some_iff_getElem] at hf
    obtain ⟨hi, h1, h2⟩ := hf
    have h1 : t ≤ l[i].t := by simpa using h1
    cases i with
    | zero =>
      rw [vAt_first h0 h1]
      exact hb _ (List.getElem_mem _)
    | succ i =>
      have h3 : ∀ j (hj : j < l.length), j ≤ i → l[j].t < t := fun j hj hji => by have := h2 j (by omega); simp at this; omega
      rw [vAt_mid hi h3 h1]
      exact segv_btw (hr i (i + 1) hi (by omega)) (Int.le_of_lt (h3 i (by omega) (Nat.le_refl _))) h1 (hb _ (List.getElem_mem _)) (hb _ (List.getElem_mem _))
/-- what makes keys valid -/
theorem okK_mk {l : List Ky} (h1 : 1 ≤ l.length) (h2 : l.length ≤ 24) (hb : ∀ x ∈ l, (0 ≤ x.t ∧ x.t ≤ 7200000) ∧ (-1000000 ≤ x.v ∧ x.v ≤ 1000000)) (hp : l.Pairwise fun a b => a.t < b.t) : okK l :=
  ⟨⟨h1, h2⟩, fun i hi => ⟨(hb _ (List.getElem_mem hi)).1, (hb _ (List.getElem_mem hi)).2, fun h0 => List.pairwise_iff_getElem.1 hp (i - 1) i (by omega) hi (by omega)⟩⟩
theorem okK_bd {l : List Ky} (h : okK l) : ∀ x ∈ l, (0 ≤ x.t ∧ x.t ≤ 7200000) ∧ (-1000000 ≤ x.v ∧ x.v ≤ 1000000) := fun x hx => by
  obtain ⟨i, hi, rfl⟩ := List.getElem_of_mem hx
  exact ⟨(h.2 i hi).1, (h.2 i hi).2.1⟩
/-- what a part of a track is made of -/
theorem cutP_law {l : List Ky} (hk : okK l) {f u : Int} (hc : cutOk f u) : ∀ k, k ≤ l.length →
    (cutP l f u k).Pairwise (fun a b => a.t < b.t) ∧ (∀ x ∈ cutP l f u k, 0 ≤ x.t ∧ x.t < u - f ∧ vAt l (f + x.t) = x.v) ∧ (∀ x ∈ cutP l f u k, ∀ j, k ≤ j → j < l.length → f < (kyG l j).t → x.t < (kyG l j).t - f)
  | 0, _ => by
    obtain ⟨h1, h2, h3⟩ := hc
    refine ⟨by simp [cutP], fun x hx => ?_, fun x hx j hj hjl h => ?_⟩
    · obtain rfl : x = ⟨0, vAt l f⟩ := by simpa [cutP] using hx
      exact ⟨Int.le_refl _, by show 0 < u - f; omega, by show vAt l (f + 0) = _; rw [Int.add_zero]⟩
    · obtain rfl : x = ⟨0, vAt l f⟩ := by simpa [cutP] using hx
      show 0 < _
      omega
  | k + 1, hk1 => by
    obtain ⟨i1, i2, i3⟩ := cutP_law hk hc k (by omega)
    have hr := hk.ris
    by_cases hon : f < (kyG l k).t ∧ (kyG l k).t < u
    · rw [cutP_on hon.1 hon.2]
      refine ⟨List.pairwise_append.2 ⟨i1, by simp, fun a ha b hb => ?_⟩, fun x hx => ?_, fun x hx j hj hjl h => ?_⟩
      · obtain rfl := List.mem_singleton.1 hb
        exact i3 a ha k (Nat.le_refl _) (by omega) hon.1
      · rcases List.mem_append.1 hx with hx | hx
        · exact i2 x hx
        · obtain rfl := List.mem_singleton.1 hx
          refine ⟨by show 0 ≤ (kyG l k).t - f; omega, by show (kyG l k).t - f < u - f; omega, ?_⟩
          show vAt l (f + ((kyG l k).t - f)) = (kyG l k).v
          rw [show f + ((kyG l k).t - f) = (kyG l k).t by omega, kyG_at (by omega)]
          exact vAt_key hr _
      · rcases List.mem_append.1 hx with hx | hx
        · exact i3 x hx j (by omega) hjl h
        · obtain rfl := List.mem_singleton.1 hx
          show (kyG l k).t - f < (kyG l j).t - f
          rw [kyG_at (by omega), kyG_at hjl]
          have := hr k j hjl (by omega)
          omega
    · rw [cutP_off hon]
      exact ⟨i1, i2, fun x hx j hj => i3 x hx j (by omega)⟩
theorem cut_law {nm : ByteArray} {l : List Ky} {f u : Int} {r : TR3} (h : cutR nm l f u = r) (h0 : r.co = 0) :
    vT r.nm r.l = true ∧ r.nm = nm ∧ vT nm l = true ∧ (0 ≤ f ∧ f < u ∧ u ≤ 7200000) ∧ 2 ≤ r.l.length ∧ r.l.length ≤ 24 ∧ (kyG r.l (r.l.length - 1)).t = u - f ∧ (∀ k, k < r.l.length → 0 ≤ (kyG r.l k).t ∧ (kyG r.l k).t ≤ u - f ∧ vAt l (f + (kyG r.l k).t) = (kyG r.l k).v) := by
  subst h
  cases hv : vT nm l
  · rw [cutR_inv hv] at h0; simp [trErr] at h0
  by_cases hc : cutOk f u
  rotate_left
  · rw [cutR_rng hv hc] at h0; simp [trErr] at h0
  by_cases hf : 24 < (cutA l f u).length
  · rw [cutR_full hv hc hf] at h0; simp [trErr] at h0
  rw [cutR_go hv hc hf]
  obtain ⟨hn, hk⟩ := vT_of hv
  obtain ⟨i1, i2, -⟩ := cutP_law hk hc l.length (Nat.le_refl _)
  obtain ⟨c1, c2, c3⟩ := hc
  have hbd : ∀ x ∈ cutA l f u, 0 ≤ x.t ∧ x.t ≤ u - f ∧ vAt l (f + x.t) = x.v := fun x hx => by
    unfold cutA at hx
    rcases List.mem_append.1 hx with hx | hx
    · have := i2 x hx
      exact ⟨this.1, by omega, this.2.2⟩
    · obtain rfl := List.mem_singleton.1 hx
      exact ⟨by show 0 ≤ u - f; omega, Int.le_refl _, by show vAt l (f + (u - f)) = vAt l u; rw [show f + (u - f) = u by omega]⟩
  have hp : (cutA l f u).Pairwise fun a b => a.t < b.t := by
    unfold cutA
    refine List.pairwise_append.2 ⟨i1, by simp, fun a ha b hb => ?_⟩
    obtain rfl := List.mem_singleton.1 hb
    exact (i2 a ha).2.1
  have hln : ∀ k, 1 ≤ (cutP l f u k).length := by
    intro k
    induction k with
    | zero => simp [cutP]
    | succ k ih => unfold cutP; rw [List.length_append]; omega
  have hl2 : 2 ≤ (cutA l f u).length := by
    have := hln l.length
    unfold cutA
    rw [List.length_append]
    simp
    omega
  have hok : okK (cutA l f u) := okK_mk (by omega) (by omega) (fun x hx => by
    obtain ⟨b1, b2, b3⟩ := hbd x hx
    rw [← b3]
    exact ⟨by omega, vAt_btw hk.ris (by have := hk.1.1; omega) _ (fun y hy => (okK_bd hk y hy).2)⟩) hp
  refine ⟨vT_yes hn hok, rfl, rfl, by omega, hl2, by show (cutA l f u).length ≤ 24; omega, ?_, fun k hk' => ?_⟩
  · show (kyG (cutA l f u) ((cutA l f u).length - 1)).t = u - f
    rw [kyG_at (by omega)]
    unfold cutA
    simp
  · have := hbd _ (List.getElem_mem hk')
    rw [← kyG_at hk'] at this
    exact this
theorem vaR_ok {nm : ByteArray} {l : List Ky} {t : Int} (h : vT nm l = true) (h0 : 0 ≤ t) (h1 : t ≤ 7200000) : vaR nm l t = (vAt l t, 0) := by unfold vaR; rw [if_pos h, if_pos ⟨h0, h1⟩]
/-- moving back undoes moving -/
theorem shiftK_back (l : List Ky) (d : Int) : shiftK (shiftK l d) (-d) = l := by
  unfold shiftK
  rw [List.map_map]
  conv => rhs; rw [← List.map_id l]
  exact List.map_congr_left fun x _ => by simp [Int.add_neg_cancel_right]
theorem trChk_ok {nm : ByteArray} {l : List Ky} (h : (trChk nm l).co = 0) : vT nm l = true ∧ trChk nm l = ⟨nm, l, 0⟩ := by
  cases hv : vT nm l
  · rw [trChk_no hv] at h; simp [trErr] at h
  · exact ⟨rfl, trChk_yes hv⟩
theorem shift_law {nm : ByteArray} {l : List Ky} {d : Int} {r : TR3} (h : shiftR nm l d = r) (h0 : r.co = 0) : shiftR r.nm r.l (-d) = ⟨nm, l, 0⟩ := by
  subst h
  by_cases hv : vT nm l = true
  · by_cases hd : -7200000 ≤ d ∧ d ≤ 7200000
    · have e1 : shiftR nm l d = trChk nm (shiftK l d) := by unfold shiftR; rw [if_pos hv, if_pos hd]
      rw [e1] at h0 ⊢
      obtain ⟨h1, h2⟩ := trChk_ok h0
      rw [h2]
      show shiftR nm (shiftK l d) (-d) = _
      unfold shiftR
      rw [if_pos h1, if_pos (by omega), shiftK_back, trChk_yes hv]
    · have e1 : shiftR nm l d = trErr 2 := by unfold shiftR; rw [if_pos hv, if_neg hd]
      rw [e1] at h0
      simp [trErr] at h0
  · have e1 : shiftR nm l d = trErr 1 := by unfold shiftR; rw [if_neg hv]
    rw [e1] at h0
    simp [trErr] at h0
theorem eqKy_self (x : Ky) : eqKy x x = true := by simp [eqKy]
theorem sameT_self (nm : ByteArray) (l : List Ky) : sameT nm l nm l = true := by
  unfold sameT
  rw [sameK_yes rfl (fun k h _ => eqKy_self _)]
  simp
theorem upI_le {a s d : Int} (hs : 0 < s) (hd : 0 < d) (h : upI a s ≤ d) : upI a d ≤ s := by
  unfold upI at *
  have e := Int.mul_ediv_add_emod (a + s - 1) s
  have r1 := Int.emod_lt_of_pos (a + s - 1) hs
  generalize (a + s - 1) / s = q at *
  generalize (a + s - 1) % s = r at *
  have h1 : s * q ≤ s * d := Int.mul_le_mul_of_nonneg_left h (Int.le_of_lt hs)
  have h2 : (a + d - 1) / d < s + 1 := Int.ediv_lt_of_lt_mul hd (by rw [Int.add_mul, Int.one_mul]; omega)
  omega
theorem spd_slow {l : List Ky} (hk : okK l) {s : Int} (hs : 1 ≤ s) {k : Nat} (h : k + 1 < l.length) : spd (kyG (slK l s) k) (kyG (slK l s) (k + 1)) ≤ s := by
  have hl := slK_len l s
  rw [kyG_at (show k < (slK l s).length by omega), kyG_at (show k + 1 < (slK l s).length by omega)]
  have e1 : (slK l s)[k]'(by omega) = ⟨slT l s k, (kyG l k).v⟩ := by simp [slK]
  have e2 : (slK l s)[k + 1]'(by omega) = ⟨slT l s (k + 1), (kyG l (k + 1)).v⟩ := by simp [slK]
  rw [e1, e2]
  unfold spd
  dsimp only
  have ht : slT l s (k + 1) - slT l s k = slM l s k := by show slT l s k + slM l s k - slT l s k = _; omega
  rw [ht]
  have hr := hk.ris k (k + 1) h (by omega)
  rw [← kyG_at (show k < l.length by omega), ← kyG_at h] at hr
  refine upI_le (by omega) ?_ ?_
  · unfold slM; split <;> omega
  · unfold slM; split <;> omega
theorem fsP_slow {l : List Ky} {s : Int} (hs : 1 ≤ s) (h : ∀ k, k + 1 < l.length → spd (kyG l k) (kyG l (k + 1)) ≤ s) : ∀ k, k < l.length → (fsP l k).2 ≤ s
  | 0, _ => by show (-1 : Int) ≤ s; omega
  | k + 1, hk => by
    have := fsP_slow hs h k (by omega)
    unfold fsP
    split
    · exact h k hk
    · exact this
theorem slow_law {nm : ByteArray} {l : List Ky} {s : Int} {r : TR3} (h : slR nm l s = r) : (r.co ≠ 0 → r.l.length = 0) ∧ (r.co = 0 → vT r.nm r.l = true ∧ r.l.length = l.length ∧ l.length ≤ 24 ∧ ((fsR r.nm r.l).2.2 = 0 → (fsR r.nm r.l).2.1 ≤ s)) := by
  subst h
  cases hv : vT nm l
  · rw [slR_inv hv]; exact ⟨fun _ => rfl, fun h => by simp [trErr] at h⟩
  by_cases hd : 1 ≤ s ∧ s ≤ 1000000
  rotate_left
  · rw [slR_rng hv hd]; exact ⟨fun _ => rfl, fun h => by simp [trErr] at h⟩
  rw [slR_go hv hd]
  cases hc : vT nm (slK l s)
  · rw [trChk_no hc]; exact ⟨fun _ => rfl, fun h => by simp [trErr] at h⟩
  rw [trChk_yes hc]
  refine ⟨fun h => absurd rfl h, fun _ => ⟨hc, slK_len l s, (vT_of hv).2.1.2, fun _ => ?_⟩⟩
  have h1 := (vT_of hv).2
  show (fsR nm (slK l s)).2.1 ≤ s
  unfold fsR
  rw [if_pos hc]
  split
  · show (0 : Int) ≤ s; omega
  · have hl := slK_len l s
    exact fsP_slow hd.1 (fun k hk => spd_slow h1 hd.1 (by omega)) _ (by have := h1.1.1; omega)
end Go.Proofs.YtdhflckombkimaaDoor
