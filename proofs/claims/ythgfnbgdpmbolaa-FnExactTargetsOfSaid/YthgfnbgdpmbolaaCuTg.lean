/-
  TargetsOf of the specification. Conditions: those typed at each theorem.
-/
import Derived.Test.YthgfnbgdpmbolaaCuF
import Derived.Test.YthgfnbgdpmbolaaCuCl
import Derived.Test.YthgfnbgdpmbolaaCuWo
import Derived.Test.YthgfnbgdpmbolaaStrU
import Derived.Test.YthgfnbgdpmbolaaAppB
import Derived.Test.YthgfnbgdpmbolaaMkString
import Derived.Sort.Walk0
namespace Go.Proofs.Ythgfnbgdpmbolaa
open Go.RowKit
/-- the targets, as bytes -/
def tgB (l : List Cu) : List Bs := l.map fun x => x.tg.data.toList
def mkS (l : List Bs) : List ByteArray := l.map fun x => ⟨x.toArray⟩
def toB (l : List ByteArray) : List Bs := l.map fun x => x.data.toList
theorem mkS_toB (l : List ByteArray) : mkS (toB l) = l := by
  unfold mkS toB
  rw [List.map_map]
  conv => rhs; rw [← List.map_id l]
  exact List.map_congr_left fun x _ => rfl
theorem toB_len (l : List ByteArray) : (toB l).length = l.length := by simp [toB]
theorem tgB_at {l : List Cu} {k : Nat} (h : k < l.length) : (tgB l).getD k [] = (cuG l k).tg.data.toList := by
  rw [cuG_at h]
  simp [tgB, List.getD, h]
noncomputable def tgV (l : List Cu) : List ByteArray := if vCs l = true then mkS (insAll (tgB l) l.length) else []
noncomputable def tgE (l : List Cu) : Int := if vCs l = true then 0 else 1
theorem tgV_len (l : List Cu) : (tgV l).length ≤ 64 := by
  unfold tgV
  split
  · rename_i h
    have h1 := insAll_len (tgB l) l.length
    have h2 := (vCs_of h).1
    simp only [mkS, List.length_map]
    omega
  · simp
/-- the first place where P fails -/
theorem first_not (P : Nat → Prop) [DecidablePred P] : ∀ n, ∃ p, p ≤ n ∧ (∀ j, j < p → P j) ∧ (p < n → ¬ P p)
  | 0 => ⟨0, Nat.le_refl _, fun _ h => absurd h (by omega), fun h => absurd h (by omega)⟩
  | n + 1 => by
    obtain ⟨p, h1, h2, h3⟩ := first_not P n
    rcases Nat.lt_or_ge p n with h | h
    · exact ⟨p, by omega, h2, fun _ => h3 h⟩
    · have hp : p = n := by omega
      subst hp
      by_cases hP : P p
      · exact ⟨p + 1, Nat.le_refl _, fun j hj => by
          rcases Nat.lt_or_ge j p with h | h
          · exact h2 j h
          · have : j = p := by omega
            subst this; exact hP, fun h => absurd h (by omega)⟩
      · exact ⟨p, by omega, h2, fun _ => hP⟩
theorem slt (a b : ByteArray) : Op.bytesLess a.toList b.toList = decide (a.data.toList < b.data.toList) := by rw [bytesLess_eq, ByteArray.toList_eq, ByteArray.toList_eq]
theorem seq (a b : ByteArray) : (a.toList == b.toList) = decide (a.data.toList = b.data.toList) := by
  rw [ByteArray.toList_eq, ByteArray.toList_eq]
  by_cases h : a.data.toList = b.data.toList
  · rw [h]; simp
  · rw [decide_eq_false h, beq_eq_false_iff_ne]; exact h
theorem toB_at {o : List ByteArray} {k : Nat} (h : k < o.length) : (toB o)[k]'(by rw [toB_len]; exact h) = (o.getD k ⟨#[]⟩).data.toList := by simp [toB, List.getD, h]
/-- x put into o at p -/
theorem tg_ins {o : List ByteArray} {x : ByteArray} {p : Nat} (hp : p ≤ o.length) (h1 : ∀ j, j < p → (o.getD j ⟨#[]⟩).data.toList < x.data.toList) (h2 : p < o.length → ¬ (o.getD p ⟨#[]⟩).data.toList < x.data.toList) :
    ((p < o.length → (o.getD p ⟨#[]⟩).data.toList ≠ x.data.toList) → toB ((o.take p ++ [x]) ++ o.drop p) = insK (toB o) x.data.toList) ∧ (∀ _ : p < o.length, (o.getD p ⟨#[]⟩).data.toList = x.data.toList → toB o = insK (toB o) x.data.toList) := by
  obtain ⟨a, b⟩ := insK_at (x := x.data.toList) (o := toB o) (k := p) (by rw [toB_len]; exact hp) (fun j h hj => by rw [toB_at (by rw [toB_len] at h; exact h)]; exact h1 j hj) (fun h => by rw [toB_len] at h; rw [toB_at h]; exact h2 h)
  refine ⟨fun h => ?_, fun h e => (b (by rw [toB_len]; exact h) (by rw [toB_at h]; exact e)).symm⟩
  rw [a (fun h' => by rw [toB_len] at h'; rw [toB_at h']; exact h h')]
  simp [toB]
theorem tgInfo : (Try.prog.info? 9).map (fun i => (i.zero, i.size, i.bytes)) = some (some (.string ⟨#[]⟩), 1, 16) := by kernel_rfl
section
set_option maxHeartbeats 3200000
set_option maxRecDepth 20000
theorem sTgs_any (A : Option Addr) (c : Nat) (l : List Cu) (w : World) [hl : Rd 6 cC w A l] (hn : l.length ≤ 1048576) :
    Calls Try.prog 26 #[.slice A l.length c] w fun e w' => ∃ A' c', e = .returned (.slice A' (mkS (insAll (tgB l) l.length)).length c') ∧ ∃ k : Ex w, w' = k.v ∧ Ow 1 sC k.v A' (mkS (insAll (tgB l) l.length)) ∧ Fr w A' := by
  have HA := hid hl.cu
  go_enter Try.func26, Try.ntmps26
  go_wp2
  have hrow0 := hid (row_made w w.heap.size (Nat.le_refl _) 9 1 sC)
  go_loopw [3, 4] (fun v t wr => ∃ (q : Nat) (o : List ByteArray) (b c1 : Nat), q ≤ l.length ∧ t = .int .i64 q ∧ v = .slice (some ⟨b, 0, none⟩) o.length c1 ∧ o.length ≤ c1 ∧ toB o = insAll (tgB l) q ∧ LeB w.heap.size b ∧ ∃ j : Ex w, wr = j.v ∧ Ow 1 sC j.v (some ⟨b, 0, none⟩) o ∧ LtW b j.v) (fun _ t _ => l.length - (intOf t).toNat)
  case atStart => exact ⟨0, [], w.heap.size, 0, Nat.zero_le _, rfl, rfl, Nat.le_refl _, rfl, ⟨Nat.le_refl _⟩, Ex.of ((Below.refl _ _).alloc (Nat.le_refl _) _), rfl, Ow.nil, ⟨by show _ < (w.alloc _).heap.size; simp⟩⟩
  case round =>
    obtain ⟨q, o, b, c1, hq, rfl, rfl, hoc, ho, hlb, j0, rfl, hO, hltb⟩ := hrel
    have hol : o.length ≤ l.length := by have h1 := insAll_len (tgB l) q; rw [← ho, toB_len] at h1; omega
    have HO := hid ho
    clear ho
    by_cases hlt : q < l.length
    · obtain ⟨b', o', rfl, hbw, hat⟩ := HA.out (by omega)
      obtain ⟨c0, c1', c2, c3, c4, c5⟩ := hat q hlt
      clear hat
      have HS : Hid (insAll (tgB l) (q + 1) = insK (toB o) (cuG l q).tg.data.toList) := hid (by rw [HO.out]; show insK _ _ = _; rw [tgB_at hlt])
      generalize cuG l q = x at *
      have hz1 : (0 : Int) ≤ (q : Int) := by omega
      have hz2 : (q : Int) < (l.length : Int) := by omega
      obtain ⟨p, hp, hlo, hhi⟩ := first_not (fun j => (o.getD j ⟨#[]⟩).data.toList < x.tg.data.toList) o.length
      have HLO := hid hlo
      have HHI := hid hhi
      clear hlo hhi
      have HR := hid (inferInstance : Rd 1 sC j0.v (some ⟨b, 0, none⟩) o).at_
      go_wp2
      go_loopw [5] (fun t wr => ∃ k : Nat, k ≤ p ∧ t = .int .i64 k ∧ ∃ j : Ex j0.v, wr = j.v) (fun t _ => p - (intOf t).toNat)
      case atStart => exact ⟨0, Nat.zero_le _, rfl, Ex.rf _, rfl⟩
      case round =>
        obtain ⟨k, hk, rfl, j1, rfl⟩ := hrel
        have hz3 : (0 : Int) ≤ (k : Int) := by omega
        by_cases hkp : k < p
        · obtain ⟨b2, o2, e2, hb2, hc2⟩ := HR.out (by omega)
          cases e2
          have d0 := hc2 k (by omega) 0 _ rfl
          simp only [Nat.mul_one, Nat.add_zero, Nat.zero_add] at d0
          clear hc2
          have hy := HLO.out k hkp
          have hyg : o.getD k ⟨#[]⟩ = o[k]'(by omega) := by simp [List.getD, show k < o.length by omega]
          rw [hyg] at hy
          clear hyg
          generalize o[k]'(by omega) = y at *
          have g1 : decide ((k : Int) < (o.length : Int)) = true := by simp; omega
          have g3 : (k : Int) < (o.length : Int) := by omega
          have g2 : Op.bytesLess y.toList x.tg.toList = true := by rw [slt]; exact decide_eq_true hy
          go_wp2_with (fail)
          (refine wp_region_ex (by kernel_rfl) (by kernel_rfl) ?_; (repeat (go_big_quiet_step (fail))); refine wpQuiet_nil ?_; rintro _ ⟨k2, rfl⟩)
          go_wp2
          go_roundw
          case rel => exact ⟨k + 1, by omega, by go_num, by (refine Ok.toEx ?_; (repeat (first | (with_reducible exact Ok.rf _) | (with_reducible refine Ok.alloc ?_ _) | (with_reducible refine Ok.ex ?_ _) | (with_reducible refine Ok.drew ?_) | (with_reducible refine Ok.setCellI ?_ _ _ _) | (with_reducible refine Ok.exb ?_ _))))⟩
          case measure => simp [intOf]; omega
        · obtain rfl : k = p := by omega
          obtain ⟨hI, hK⟩ := tg_ins hp HLO.out HHI.out
          have HI := hid hI
          have HK := hid hK
          clear hI hK
          by_cases hko : k < o.length
          · obtain ⟨b2, o2, e2, hb2, hc2⟩ := HR.out (by omega)
            cases e2
            have d0 := hc2 k hko 0 _ rfl
            simp only [Nat.mul_one, Nat.add_zero, Nat.zero_add] at d0
            clear hc2
            have hy := HHI.out hko
            have hyg : o.getD k ⟨#[]⟩ = o[k]'(by omega) := by simp [List.getD, show k < o.length by omega]
            have HKK := HK.out hko
            have HII := HI.out
            rw [hyg] at hy HKK HII
            clear hyg HI HK
            generalize o[k]'(by omega) = y at *
            have g1 : decide ((k : Int) < (o.length : Int)) = true := by simp; omega
            have g3 : (k : Int) < (o.length : Int) := by omega
            have g2 : Op.bytesLess y.toList x.tg.toList = false := by rw [slt]; exact decide_eq_false hy
            by_cases he : y.data.toList = x.tg.data.toList
            · have HE : Hid (toB o = insAll (tgB l) (q + 1)) := hid (by rw [HS.out]; exact HKK he)
              have g4 : (y.toList == x.tg.toList) = true := by rw [seq]; exact decide_eq_true he
              clear he HKK HII hy
              go_wp2_with (fail)
              (refine wp_region_ex (by kernel_rfl) (by kernel_rfl) ?_; (repeat (go_big_quiet_step (fail))); refine wpQuiet_nil ?_; rintro _ ⟨k2, rfl⟩)
              go_wp2_with (fail)
              (refine wp_region_ex (by kernel_rfl) (by kernel_rfl) ?_; (repeat (go_big_quiet_step (fail))); refine wpQuiet_nil ?_; rintro _ ⟨k3, rfl⟩)
              go_wp2
              go_roundw
              case rel => exact ⟨q + 1, o, b, c1, by omega, by go_num, rfl, hoc, HE.out, hlb, ex_and (fun W => Ow 1 sC W (some ⟨b, 0, none⟩) o ∧ LtW b W) (by (refine Ok.toEx ?_; (repeat (first | (with_reducible exact Ok.rf _) | (with_reducible refine Ok.alloc ?_ _) | (with_reducible refine Ok.ex ?_ _) | (with_reducible refine Ok.drew ?_) | (with_reducible refine Ok.setCellI ?_ _ _ _) | (with_reducible refine Ok.exb ?_ _))))) ⟨inferInstance, inferInstance⟩⟩
              case measure => simp [intOf]; omega
            · have HE : Hid (toB ((o.take k ++ [x.tg]) ++ o.drop k) = insAll (tgB l) (q + 1)) := hid (by rw [HS.out]; exact HII (fun _ => he))
              have g4 : (y.toList == x.tg.toList) = false := by rw [seq]; exact decide_eq_false he
              clear he HKK HII hy
              go_wp2_with (fail)
              (refine wp_region_ex (by kernel_rfl) (by kernel_rfl) ?_; (repeat (go_big_quiet_step (fail))); refine wpQuiet_nil ?_; rintro _ ⟨k2, rfl⟩)
              go_wp2_with (fail)
              (refine wp_region_ex (by kernel_rfl) (by kernel_rfl) ?_; (repeat (go_big_quiet_step (fail))); refine wpQuiet_nil ?_; rintro _ ⟨k3, rfl⟩)
              (have hti : (o.take k).length = k := (by rw [List.length_take]; omega); have htd : (o.drop k).length = o.length - k := List.length_drop ..; have g5 : k ≤ c1 := (by omega); have g6 : k ≤ o.length := (by omega); have g7 : (k : Int) ≤ (c1 : Int) := (by omega); have g8 : (k : Int) ≤ (o.length : Int) := (by omega); have hrd : Rd 1 sC j0.v (some ⟨b, 0, none⟩) o := (by infer_instance); haveI r1 := Rd.take hrd k; haveI r2 : Rd 1 sC j0.v (some ⟨b, k, none⟩) (o.drop k) := (by have h := Rd.drop hrd k; rw [Nat.mul_one, Nat.zero_add] at h; exact h); go_wp2_with (first | (at_builtin; go_loud (refine wpList_appM sC _ rfl _ _ _ rfl k3.v.heap.size ?_ _ _ _ _ Try.underlying26 tgInfo rfl (by omega) (fun _ => ⟨rfl, by simp [sC, Value.oneCell']⟩) _ [] rfl (row_made k3.v k3.v.heap.size (Nat.le_refl _) 9 1 sC) b 0 (o.take k) _ (by rw [hti]; rfl) ?_ ?_ ?_ ?_; (· simp); (· infer_instance); (· (try simp); (try omega)); (· (try simp); (try omega)); intro v1 kk1 hA1; have hk1 : k3.v.heap.size ≤ kk1.v.heap.size := Nat.le_trans (by simp) kk1.h.size; have kB1 : Below k3.v.heap.size k3.v kk1.v := ((Below.refl _ _).alloc (Nat.le_refl _) _).trans kk1.h)) | (at_builtin; go_loud (refine wpList_appZ sC _ rfl _ _ _ rfl k3.v.heap.size ?_ _ _ _ _ Try.underlying26 tgInfo rfl (by omega) (fun _ => ⟨rfl, by simp [sC, Value.oneCell']⟩) v1 (o.take k) rfl (hA1.own.alloc _) x.tg _ _ rfl (cellsB ?_) ?_ ?_ ?_; (· (try simp); (try omega)); (· simp); (· (try simp); (try omega)); (· (try simp); (try omega)); intro v2 kk2 hA2; have hk2 : k3.v.heap.size ≤ kk2.v.heap.size := Nat.le_trans hk1 (Nat.le_trans (by simp) kk2.h.size); have kB2 : Below k3.v.heap.size k3.v kk2.v := (kB1.alloc hk1 _).trans kk2.h; haveI r3 : Rd 1 sC kk2.v (some ⟨b, k, none⟩) (o.drop k) := Rd.ex (h := (inferInstance : Rd 1 sC k3.v (some ⟨b, k, none⟩) (o.drop k))) (Ex.of kB2))) | (at_builtin; go_loud (refine wpList_appM sC _ rfl _ _ _ rfl k3.v.heap.size ?_ _ _ _ _ Try.underlying26 tgInfo rfl (by omega) (fun _ => ⟨rfl, by simp [sC, Value.oneCell']⟩) v2 (o.take k ++ [x.tg]) rfl hA2.own b k (o.drop k) (c1 - k) (by rw [htd]; rfl) ?_ ?_ ?_ ?_; (· exact hk2); (· first | infer_instance | exact ⟨by simp, fun h => absurd h (by simp)⟩ | (simpa using r3)); (· (try simp); (try omega)); (· (try simp); (try omega)); intro v3 kk3 hA3))); obtain ⟨A3, c3, he, hO3, hF3⟩ := Ow.of_row (f := sC) (fun _ => rfl) hA3.own; subst he; have hcp3 := (own_cap hA3.own).1; obtain ⟨g, rfl, hg⟩ := hO3.own (by simp; (try omega)); have hle1 := hF3 g 0 none rfl; have hle2 := (inferInstance : LeB w.heap.size k3.v.heap.size).h; haveI hlt3 := hg.lt; go_roundw; (case rel => exact ⟨q + 1, (o.take k ++ [x.tg]) ++ o.drop k, g, _, by omega, by go_num, by first | rfl | (simp; done), by first | exact hcp3 | (simpa using hcp3), HE.out, ⟨by omega⟩, ex_and (fun W => Ow 1 sC W (some ⟨g, 0, none⟩) ((o.take k ++ [x.tg]) ++ o.drop k) ∧ LtW g W) (by (refine Ok.toEx ?_; (repeat (first | (with_reducible exact Ok.rf _) | (with_reducible refine Ok.alloc ?_ _) | (with_reducible refine Ok.ex ?_ _) | (with_reducible refine Ok.drew ?_) | (with_reducible refine Ok.setCellI ?_ _ _ _) | (with_reducible refine Ok.exb ?_ _))))) ⟨inferInstance, inferInstance⟩⟩); (case measure => simp [intOf]; omega))
          · have hkl : k = o.length := by omega
            have g1 : decide ((k : Int) < (o.length : Int)) = false := by simp; omega
            have g3 : ¬ (k : Int) < (o.length : Int) := by omega
            have HE : Hid (toB ((o.take k ++ [x.tg]) ++ o.drop k) = insAll (tgB l) (q + 1)) := hid (by rw [HS.out]; exact HI.out (fun h => absurd h hko))
            have HKL := hid hkl
            clear HI HK hkl
            go_wp2_with (fail)
            (refine wp_region_ex (by kernel_rfl) (by kernel_rfl) ?_; (repeat (go_big_quiet_step (fail))); refine wpQuiet_nil ?_; rintro _ ⟨k2, rfl⟩)
            go_wp2_with (fail)
            (refine wp_region_ex (by kernel_rfl) (by kernel_rfl) ?_; (repeat (go_big_quiet_step (fail))); refine wpQuiet_nil ?_; rintro _ ⟨k3, rfl⟩)
            by_cases hcl : c1 = k
            · have hnil : o.drop k = [] := List.drop_eq_nil_of_le (by have := HKL.out; omega)
              rw [hnil] at HE
              have HN := hid hnil
              clear hnil
              have hlen0 : o.length = k := by have := HKL.out; omega
              (have hti : (o.take k).length = k := (by rw [List.length_take]; omega); have htd : (o.drop k).length = o.length - k := List.length_drop ..; have g5 : k ≤ c1 := (by omega); have g6 : k ≤ o.length := (by omega); have g7 : (k : Int) ≤ (c1 : Int) := (by omega); have g8 : (k : Int) ≤ (o.length : Int) := (by omega); have hrd : Rd 1 sC j0.v (some ⟨b, 0, none⟩) o := (by infer_instance); haveI r1 := Rd.take hrd k; haveI r2 : Rd 1 sC j0.v (some ⟨b, k, none⟩) (o.drop k) := (by have h := Rd.drop hrd k; rw [Nat.mul_one, Nat.zero_add] at h; exact h); go_wp2_with (first | (at_builtin; go_loud (refine wpList_appM sC _ rfl _ _ _ rfl k3.v.heap.size ?_ _ _ _ _ Try.underlying26 tgInfo rfl (by omega) (fun _ => ⟨rfl, by simp [sC, Value.oneCell']⟩) _ [] rfl (row_made k3.v k3.v.heap.size (Nat.le_refl _) 9 1 sC) b 0 (o.take k) _ (by rw [hti]; rfl) ?_ ?_ ?_ ?_; (· simp); (· infer_instance); (· (try simp); (try omega)); (· (try simp); (try omega)); intro v1 kk1 hA1; have hk1 : k3.v.heap.size ≤ kk1.v.heap.size := Nat.le_trans (by simp) kk1.h.size; have kB1 : Below k3.v.heap.size k3.v kk1.v := ((Below.refl _ _).alloc (Nat.le_refl _) _).trans kk1.h)) | (at_builtin; go_loud (refine wpList_appZ sC _ rfl _ _ _ rfl k3.v.heap.size ?_ _ _ _ _ Try.underlying26 tgInfo rfl (by omega) (fun _ => ⟨rfl, by simp [sC, Value.oneCell']⟩) v1 (o.take k) rfl (hA1.own.alloc _) x.tg _ _ rfl (cellsB ?_) ?_ ?_ ?_; (· (try simp); (try omega)); (· simp); (· (try simp); (try omega)); (· (try simp); (try omega)); intro v2 kk2 hA2; have hk2 : k3.v.heap.size ≤ kk2.v.heap.size := Nat.le_trans hk1 (Nat.le_trans (by simp) kk2.h.size); have kB2 : Below k3.v.heap.size k3.v kk2.v := (kB1.alloc hk1 _).trans kk2.h; haveI r3 : Rd 1 sC kk2.v (some ⟨b, k, none⟩) (o.drop k) := Rd.ex (h := (inferInstance : Rd 1 sC k3.v (some ⟨b, k, none⟩) (o.drop k))) (Ex.of kB2))) | (at_builtin; go_loud (refine wpList_appM sC _ rfl _ _ _ rfl k3.v.heap.size ?_ _ _ _ _ Try.underlying26 tgInfo rfl (by omega) (fun _ => ⟨rfl, by simp [sC, Value.oneCell']⟩) v2 (o.take k ++ [x.tg]) rfl hA2.own b 0 [] 0 rfl ?_ ?_ ?_ ?_; (· exact hk2); (· first | infer_instance | exact ⟨by simp, fun h => absurd h (by simp)⟩ | (simpa using r3)); (· (try simp); (try omega)); (· (try simp); (try omega)); intro v3 kk3 hA3))); obtain ⟨A3, c3, he, hO3, hF3⟩ := Ow.of_row (f := sC) (fun _ => rfl) hA3.own; subst he; have hcp3 := (own_cap hA3.own).1; obtain ⟨g, rfl, hg⟩ := hO3.own (by simp; (try omega)); have hle1 := hF3 g 0 none rfl; have hle2 := (inferInstance : LeB w.heap.size k3.v.heap.size).h; haveI hlt3 := hg.lt; go_roundw; (case rel => exact ⟨q + 1, (o.take k ++ [x.tg]) ++ [], g, _, by omega, by go_num, by first | rfl | (simp; done), by first | exact hcp3 | (simpa using hcp3), HE.out, ⟨by omega⟩, ex_and (fun W => Ow 1 sC W (some ⟨g, 0, none⟩) ((o.take k ++ [x.tg]) ++ []) ∧ LtW g W) (by (refine Ok.toEx ?_; (repeat (first | (with_reducible exact Ok.rf _) | (with_reducible refine Ok.alloc ?_ _) | (with_reducible refine Ok.ex ?_ _) | (with_reducible refine Ok.drew ?_) | (with_reducible refine Ok.setCellI ?_ _ _ _) | (with_reducible refine Ok.exb ?_ _))))) ⟨inferInstance, inferInstance⟩⟩); (case measure => simp [intOf]; omega))
            · (have hti : (o.take k).length = k := (by rw [List.length_take]; omega); have htd : (o.drop k).length = o.length - k := List.length_drop ..; have g5 : k ≤ c1 := (by omega); have g6 : k ≤ o.length := (by omega); have g7 : (k : Int) ≤ (c1 : Int) := (by omega); have g8 : (k : Int) ≤ (o.length : Int) := (by omega); have hrd : Rd 1 sC j0.v (some ⟨b, 0, none⟩) o := (by infer_instance); haveI r1 := Rd.take hrd k; haveI r2 : Rd 1 sC j0.v (some ⟨b, k, none⟩) (o.drop k) := (by have h := Rd.drop hrd k; rw [Nat.mul_one, Nat.zero_add] at h; exact h); go_wp2_with (first | (at_builtin; go_loud (refine wpList_appM sC _ rfl _ _ _ rfl k3.v.heap.size ?_ _ _ _ _ Try.underlying26 tgInfo rfl (by omega) (fun _ => ⟨rfl, by simp [sC, Value.oneCell']⟩) _ [] rfl (row_made k3.v k3.v.heap.size (Nat.le_refl _) 9 1 sC) b 0 (o.take k) _ (by rw [hti]; rfl) ?_ ?_ ?_ ?_; (· simp); (· infer_instance); (· (try simp); (try omega)); (· (try simp); (try omega)); intro v1 kk1 hA1; have hk1 : k3.v.heap.size ≤ kk1.v.heap.size := Nat.le_trans (by simp) kk1.h.size; have kB1 : Below k3.v.heap.size k3.v kk1.v := ((Below.refl _ _).alloc (Nat.le_refl _) _).trans kk1.h)) | (at_builtin; go_loud (refine wpList_appZ sC _ rfl _ _ _ rfl k3.v.heap.size ?_ _ _ _ _ Try.underlying26 tgInfo rfl (by omega) (fun _ => ⟨rfl, by simp [sC, Value.oneCell']⟩) v1 (o.take k) rfl (hA1.own.alloc _) x.tg _ _ rfl (cellsB ?_) ?_ ?_ ?_; (· (try simp); (try omega)); (· simp); (· (try simp); (try omega)); (· (try simp); (try omega)); intro v2 kk2 hA2; have hk2 : k3.v.heap.size ≤ kk2.v.heap.size := Nat.le_trans hk1 (Nat.le_trans (by simp) kk2.h.size); have kB2 : Below k3.v.heap.size k3.v kk2.v := (kB1.alloc hk1 _).trans kk2.h; haveI r3 : Rd 1 sC kk2.v (some ⟨b, k, none⟩) (o.drop k) := Rd.ex (h := (inferInstance : Rd 1 sC k3.v (some ⟨b, k, none⟩) (o.drop k))) (Ex.of kB2))) | (at_builtin; go_loud (refine wpList_appM sC _ rfl _ _ _ rfl k3.v.heap.size ?_ _ _ _ _ Try.underlying26 tgInfo rfl (by omega) (fun _ => ⟨rfl, by simp [sC, Value.oneCell']⟩) v2 (o.take k ++ [x.tg]) rfl hA2.own b k (o.drop k) (c1 - k) (by rw [htd]; rfl) ?_ ?_ ?_ ?_; (· exact hk2); (· first | infer_instance | exact ⟨by simp, fun h => absurd h (by simp)⟩ | (simpa using r3)); (· (try simp); (try omega)); (· (try simp); (try omega)); intro v3 kk3 hA3))); obtain ⟨A3, c3, he, hO3, hF3⟩ := Ow.of_row (f := sC) (fun _ => rfl) hA3.own; subst he; have hcp3 := (own_cap hA3.own).1; obtain ⟨g, rfl, hg⟩ := hO3.own (by simp; (try omega)); have hle1 := hF3 g 0 none rfl; have hle2 := (inferInstance : LeB w.heap.size k3.v.heap.size).h; haveI hlt3 := hg.lt; go_roundw; (case rel => exact ⟨q + 1, (o.take k ++ [x.tg]) ++ o.drop k, g, _, by omega, by go_num, by first | rfl | (simp; done), by first | exact hcp3 | (simpa using hcp3), HE.out, ⟨by omega⟩, ex_and (fun W => Ow 1 sC W (some ⟨g, 0, none⟩) ((o.take k ++ [x.tg]) ++ o.drop k) ∧ LtW g W) (by (refine Ok.toEx ?_; (repeat (first | (with_reducible exact Ok.rf _) | (with_reducible refine Ok.alloc ?_ _) | (with_reducible refine Ok.ex ?_ _) | (with_reducible refine Ok.drew ?_) | (with_reducible refine Ok.setCellI ?_ _ _ _) | (with_reducible refine Ok.exb ?_ _))))) ⟨inferInstance, inferInstance⟩⟩); (case measure => simp [intOf]; omega))
    · obtain rfl : q = l.length := by omega
      have hmk : mkS (insAll (tgB l) l.length) = o := by rw [← HO.out, mkS_toB]
      go_wp2
      go_ret
      rw [hmk]
      exact ⟨some ⟨b, 0, none⟩, c1, rfl, ex_and (fun W => Ow 1 sC W (some ⟨b, 0, none⟩) o ∧ Fr w (some ⟨b, 0, none⟩)) (by (refine Ok.toEx ?_; (repeat (first | (with_reducible exact Ok.rf _) | (with_reducible refine Ok.alloc ?_ _) | (with_reducible refine Ok.ex ?_ _) | (with_reducible refine Ok.drew ?_) | (with_reducible refine Ok.setCellI ?_ _ _ _) | (with_reducible refine Ok.exb ?_ _))))) ⟨inferInstance, ⟨fun g o m e => by cases e; exact hlb.h⟩⟩⟩
end
end Go.Proofs.Ythgfnbgdpmbolaa
