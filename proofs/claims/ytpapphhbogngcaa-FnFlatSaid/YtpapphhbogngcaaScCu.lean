/-
  CuesOfScript: both. Conditions: those typed at each theorem.
-/
import Derived.Test.YtpapphhbogngcaaScH
import Derived.Test.YtpapphhbogngcaaStrV
import Derived.Test.YtpapphhbogngcaaRdT
namespace Go.Proofs.Ytpapphhbogngcaa
open Go.RowKit Go.Lib Go.Sort
/-- the names that the first q lines fire -/
def csF (l : List Ln) (q : Nat) : List ByteArray := ((l.take q).filter fun x => x.kind == 3).map Ln.name
theorem csF_on {l : List Ln} {q : Nat} (h : q < l.length) (hk : l[q].kind = 3) : csF l (q + 1) = csF l q ++ [l[q].name] := by
  unfold csF; rw [List.take_succ_eq_append_getElem h, List.filter_append, List.map_append]; simp [hk]
theorem csF_off {l : List Ln} {q : Nat} (h : q < l.length) (hk : ¬ l[q].kind = 3) : csF l (q + 1) = csF l q := by
  unfold csF; rw [List.take_succ_eq_append_getElem h, List.filter_append, List.map_append]; simp [hk]
theorem csF_len (l : List Ln) (q : Nat) : (csF l q).length ≤ q := by
  unfold csF; rw [List.length_map]; exact Nat.le_trans (List.length_filter_le _ _) (by rw [List.length_take]; omega)
/-- the first k of some strings, put in one by one -/
theorem insAll_app (a t : List Bs) : ∀ k, k ≤ a.length → insAll (a ++ t) k = insAll a k
  | 0, _ => rfl
  | k + 1, h => by
    unfold insAll
    rw [insAll_app a t k (by omega), List.getD_eq_getElem?_getD, List.getD_eq_getElem?_getD, List.getElem?_append_left (by omega)]
/-- the names in order, without doubles -/
def csP (l : List Ln) (q : Nat) : List Bs := insAll (toB (csF l q)) (csF l q).length
theorem csP_on {l : List Ln} {q : Nat} (h : q < l.length) (hk : l[q].kind = 3) : csP l (q + 1) = insK (csP l q) l[q].name.data.toList := by
  unfold csP
  rw [csF_on h hk, show (csF l q ++ [l[q].name]).length = (csF l q).length + 1 by simp]
  have hm : toB (csF l q ++ [l[q].name]) = toB (csF l q) ++ [l[q].name.data.toList] := by simp [toB]
  rw [hm]
  show insK (insAll _ (csF l q).length) _ = _
  rw [insAll_app _ _ _ (by rw [toB_len]; exact Nat.le_refl _)]
  congr 1
  rw [List.getD_eq_getElem?_getD, List.getElem?_append_right (by rw [toB_len]; exact Nat.le_refl _), toB_len]
  simp
theorem csP_off {l : List Ln} {q : Nat} (h : q < l.length) (hk : ¬ l[q].kind = 3) : csP l (q + 1) = csP l q := by unfold csP; rw [csF_off h hk]
theorem csP_len (l : List Ln) (q : Nat) : (csP l q).length ≤ (csF l q).length := insAll_len _ _
noncomputable def csRV (l : List Ln) : List ByteArray := if vL l = true then mkS (csP l l.length) else []
noncomputable def csRE (l : List Ln) : Int := if vL l = true then 0 else 1
theorem csRV_yes {l : List Ln} (h : vL l = true) : csRV l = mkS (csP l l.length) ∧ csRE l = 0 := by unfold csRV csRE; rw [if_pos h, if_pos h]; exact ⟨rfl, rfl⟩
theorem csRV_no {l : List Ln} (h : vL l = false) : csRV l = [] ∧ csRE l = 1 := by unfold csRV csRE; rw [h]; exact ⟨rfl, rfl⟩
theorem csRV_len (l : List Ln) : (csRV l).length ≤ l.length := by
  unfold csRV
  split
  · have h1 := csP_len l l.length
    have h2 := csF_len l l.length
    simp only [mkS, List.length_map]
    omega
  · simp
theorem cs_main (l : List Ln) : mkS (Lib.compact (sortK (toB (csF l l.length)))) = mkS (csP l l.length) := by
  unfold csP
  rw [sort_compact, toB_len]
section
set_option maxHeartbeats 3200000
set_option maxRecDepth 20000
theorem sCs_any (A : Option Addr) (c : Nat) (l : List Ln) (w : World) [hl : Lns w A l] (hn : l.length ≤ 1048576) {rv : List ByteArray} {re : Int} (hrv : csRV l = rv) (hre : csRE l = re) :
    Calls Try.prog 32 #[.slice A l.length c] w fun e w' => ∃ A' c', e = .returned (.tuple #[.slice A' rv.length c', .int .i64 re]) ∧ ∃ k : Ex w, w' = k.v ∧ Ow 1 sC k.v A' rv ∧ Fr w A' := by
  subst hrv; subst hre
  have HA := hid hl.at
  cases hv : vL l
  · have HR := hid (csRV_no hv)
    go_enter Try.func32, Try.ntmps32
    go_wp2_with (go_at_call 68; refine (l15Ok_any _ _ _ _ (by omega)).mono ?_; rw [hv]; rintro e w' ⟨rfl, k, rfl⟩)
    go_ret2
    rw [HR.out.1, HR.out.2]
    exact ⟨none, 0, by rfl, k, rfl, Ow.nil, inferInstance⟩
  have HR := hid (csRV_yes hv)
  go_enter Try.func32, Try.ntmps32
  go_wp2_with (go_at_call 68; refine (l15Ok_any _ _ _ _ (by omega)).mono ?_; rw [hv]; rintro e w' ⟨rfl, k, rfl⟩)
  clear hv
  have hrow0 := hid (row_made k.v k.v.heap.size (Nat.le_refl _) 9 1 sC)
  go_loopw [4, 5] (fun v t wr => ∃ (q : Nat) (o : List ByteArray) (b c1 : Nat), q ≤ l.length ∧ t = .int .i64 q ∧ v = .slice (some ⟨b, 0, none⟩) o.length c1 ∧ o.length ≤ c1 ∧ toB o = csP l q ∧ LeB w.heap.size b ∧ ∃ j : Ex w, wr = j.v ∧ Ow 1 sC j.v (some ⟨b, 0, none⟩) o ∧ LtW b j.v) (fun _ t _ => l.length - (intOf t).toNat)
  case atStart => exact ⟨0, [], k.v.heap.size, 0, Nat.zero_le _, rfl, rfl, Nat.le_refl _, rfl, inferInstance, k.tr (Ex.of ((Below.refl _ _).alloc (Nat.le_refl _) _)), rfl, Ow.nil, ⟨by show _ < (k.v.alloc _).heap.size; simp⟩⟩
  case round =>
    obtain ⟨q, o, b, c1, hq, rfl, rfl, hoc, ho, hlb, j0, rfl, hO, hltb⟩ := hrel
    have hol : o.length ≤ l.length := by have h1 := csP_len l q; have h2 := csF_len l q; rw [← ho, toB_len] at h1; omega
    have HO := hid ho
    clear ho
    by_cases hlt : q < l.length
    · obtain ⟨b', o', rfl, hbw, hat⟩ := HA.out (by omega)
      obtain ⟨d0', d1', d2'⟩ := hat q hlt
      clear hat
      by_cases hk3 : l[q].kind = 3
      rotate_left
      · have HS := hid (csP_off hlt hk3)
        generalize l[q] = x at *
        go_wp2
        go_roundw
        case rel => exact ⟨q + 1, o, b, c1, by omega, by go_num, rfl, hoc, by rw [HS.out]; exact HO.out, hlb, j0, rfl, hO, hltb⟩
        case measure => simp [intOf]; omega
      have HS : Hid (csP l (q + 1) = insK (toB o) l[q].name.data.toList) := hid (by rw [HO.out]; exact csP_on hlt hk3)
      generalize l[q] = x at *
      have hz1 : (0 : Int) ≤ (q : Int) := by omega
      have hz2 : (q : Int) < (l.length : Int) := by omega
      obtain ⟨p, hp, hlo, hhi⟩ := first_not (fun j => (o.getD j ⟨#[]⟩).data.toList < x.name.data.toList) o.length
      have HLO := hid hlo
      have HHI := hid hhi
      clear hlo hhi
      have HR := hid (inferInstance : Rd 1 sC j0.v (some ⟨b, 0, none⟩) o).at_
      go_wp2
      go_loopw [6] (fun t wr => ∃ k : Nat, k ≤ p ∧ t = .int .i64 k ∧ ∃ j : Ex j0.v, wr = j.v) (fun t _ => p - (intOf t).toNat)
      case atStart => exact ⟨0, Nat.zero_le _, rfl, Ex.rf _, rfl⟩
      case round =>
        obtain ⟨k, hk, rfl, j1, rfl⟩ := hrel
        have hz3 : (0 : Int) ≤ (k : Int) := by omega
        by_cases hkp : k < p
        · obtain ⟨b2, o2, e2, hb2, hc2⟩ := HR.out (by omega)
          cases e2
          have d0 := hc2 k (by omega) 0 _ rfl
          simp only [Nat.mul_one, Nat.add_zero, Nat.zero_add] at d0
          clear hc2
          have hy := HLO.out k hkp
          have hyg : o.getD k ⟨#[]⟩ = o[k]'(by omega) := by simp [List.getD, show k < o.length by omega]
          rw [hyg] at hy
          clear hyg
          generalize o[k]'(by omega) = y at *
          have g1 : decide ((k : Int) < (o.length : Int)) = true := by simp; omega
          have g3 : (k : Int) < (o.length : Int) := by omega
          have g2 : Op.bytesLess y.toList x.name.toList = true := by rw [slt]; exact decide_eq_true hy
          go_wp2_with (fail)
          (refine wp_region_ex (by kernel_rfl) (by kernel_rfl) ?_; (repeat (go_big_quiet_step (fail))); refine wpQuiet_nil ?_; rintro _ ⟨k2, rfl⟩)
          go_wp2
          go_roundw
          case rel => exact ⟨k + 1, by omega, by go_num, by (refine Ok.toEx ?_; (repeat (first | (with_reducible exact Ok.rf _) | (with_reducible refine Ok.alloc ?_ _) | (with_reducible refine Ok.ex ?_ _) | (with_reducible refine Ok.drew ?_) | (with_reducible refine Ok.setCellI ?_ _ _ _) | (with_reducible refine Ok.exb ?_ _))))⟩
          case measure => simp [intOf]; omega
        · obtain rfl : k = p := by omega
          obtain ⟨hI, hK⟩ := tg_ins hp HLO.out HHI.out
          have HI := hid hI
          have HK := hid hK
          clear hI hK
          by_cases hko : k < o.length
          · obtain ⟨b2, o2, e2, hb2, hc2⟩ := HR.out (by omega)
            cases e2
            have d0 := hc2 k hko 0 _ rfl
            simp only [Nat.mul_one, Nat.add_zero, Nat.zero_add] at d0
            clear hc2
            have hy := HHI.out hko
            have hyg : o.getD k ⟨#[]⟩ = o[k]'(by omega) := by simp [List.getD, show k < o.length by omega]
            have HKK := HK.out hko
            have HII := HI.out
            rw [hyg] at hy HKK HII
            clear hyg HI HK
            generalize o[k]'(by omega) = y at *
            have g1 : decide ((k : Int) < (o.length : Int)) = true := by simp; omega
            have g3 : (k : Int) < (o.length : Int) := by omega
            have g2 : Op.bytesLess y.toList x.name.toList = false := by rw [slt]; exact decide_eq_false hy
            by_cases he : y.data.toList = x.name.data.toList
            · have HE : Hid (toB o = csP l (q + 1)) := hid (by rw [HS.out]; exact HKK he)
              have g4 : (y.toList == x.name.toList) = true := by rw [seq]; exact decide_eq_true he
              clear he HKK HII hy
              go_wp2_with (fail)
              (refine wp_region_ex (by kernel_rfl) (by kernel_rfl) ?_; (repeat (go_big_quiet_step (fail))); refine wpQuiet_nil ?_; rintro _ ⟨k2, rfl⟩)
              go_wp2_with (fail)
              (refine wp_region_ex (by kernel_rfl) (by kernel_rfl) ?_; (repeat (go_big_quiet_step (fail))); refine wpQuiet_nil ?_; rintro _ ⟨k3, rfl⟩)
              go_wp2
              go_roundw
              case rel => exact ⟨q + 1, o, b, c1, by omega, by go_num, rfl, hoc, HE.out, hlb, ex_and (fun W => Ow 1 sC W (some ⟨b, 0, none⟩) o ∧ LtW b W) (by (refine Ok.toEx ?_; (repeat (first | (with_reducible exact Ok.rf _) | (with_reducible refine Ok.alloc ?_ _) | (with_reducible refine Ok.ex ?_ _) | (with_reducible refine Ok.drew ?_) | (with_reducible refine Ok.setCellI ?_ _ _ _) | (with_reducible refine Ok.exb ?_ _))))) ⟨inferInstance, inferInstance⟩⟩
              case measure => simp [intOf]; omega
            · have HE : Hid (toB ((o.take k ++ [x.name]) ++ o.drop k) = csP l (q + 1)) := hid (by rw [HS.out]; exact HII (fun _ => he))
              have g4 : (y.toList == x.name.toList) = false := by rw [seq]; exact decide_eq_false he
              clear he HKK HII hy
              go_wp2_with (fail)
              (refine wp_region_ex (by kernel_rfl) (by kernel_rfl) ?_; (repeat (go_big_quiet_step (fail))); refine wpQuiet_nil ?_; rintro _ ⟨k2, rfl⟩)
              go_wp2_with (fail)
              (refine wp_region_ex (by kernel_rfl) (by kernel_rfl) ?_; (repeat (go_big_quiet_step (fail))); refine wpQuiet_nil ?_; rintro _ ⟨k3, rfl⟩)
              (have hti : (o.take k).length = k := (by rw [List.length_take]; omega); have htd : (o.drop k).length = o.length - k := List.length_drop ..; have g5 : k ≤ c1 := (by omega); have g6 : k ≤ o.length := (by omega); have g7 : (k : Int) ≤ (c1 : Int) := (by omega); have g8 : (k : Int) ≤ (o.length : Int) := (by omega); have hrd : Rd 1 sC j0.v (some ⟨b, 0, none⟩) o := (by infer_instance); haveI r1 := Rd.take hrd k; haveI r2 : Rd 1 sC j0.v (some ⟨b, k, none⟩) (o.drop k) := (by have h := Rd.drop hrd k; rw [Nat.mul_one, Nat.zero_add] at h; exact h); go_wp2_with (first | (at_builtin; go_loud (refine wpList_appM sC _ rfl _ _ _ rfl k3.v.heap.size ?_ _ _ _ _ Try.underlying51 tgInfo rfl (by omega) (fun _ => ⟨rfl, by simp [sC, Value.oneCell']⟩) _ [] rfl (row_made k3.v k3.v.heap.size (Nat.le_refl _) 9 1 sC) b 0 (o.take k) _ (by rw [hti]; rfl) ?_ ?_ ?_ ?_; (· simp); (· infer_instance); (· (try simp); (try omega)); (· (try simp); (try omega)); intro v1 kk1 hA1; have hk1 : k3.v.heap.size ≤ kk1.v.heap.size := Nat.le_trans (by simp) kk1.h.size; have kB1 : Below k3.v.heap.size k3.v kk1.v := ((Below.refl _ _).alloc (Nat.le_refl _) _).trans kk1.h)) | (at_builtin; go_loud (refine wpList_appZ sC _ rfl _ _ _ rfl k3.v.heap.size ?_ _ _ _ _ Try.underlying51 tgInfo rfl (by omega) (fun _ => ⟨rfl, by simp [sC, Value.oneCell']⟩) v1 (o.take k) rfl (hA1.own.alloc _) x.name _ _ rfl (cellsB ?_) ?_ ?_ ?_; (· (try simp); (try omega)); (· simp); (· (try simp); (try omega)); (· (try simp); (try omega)); intro v2 kk2 hA2; have hk2 : k3.v.heap.size ≤ kk2.v.heap.size := Nat.le_trans hk1 (Nat.le_trans (by simp) kk2.h.size); have kB2 : Below k3.v.heap.size k3.v kk2.v := (kB1.alloc hk1 _).trans kk2.h; haveI r3 : Rd 1 sC kk2.v (some ⟨b, k, none⟩) (o.drop k) := Rd.ex (h := (inferInstance : Rd 1 sC k3.v (some ⟨b, k, none⟩) (o.drop k))) (Ex.of kB2))) | (at_builtin; go_loud (refine wpList_appM sC _ rfl _ _ _ rfl k3.v.heap.size ?_ _ _ _ _ Try.underlying51 tgInfo rfl (by omega) (fun _ => ⟨rfl, by simp [sC, Value.oneCell']⟩) v2 (o.take k ++ [x.name]) rfl hA2.own b k (o.drop k) (c1 - k) (by rw [htd]; rfl) ?_ ?_ ?_ ?_; (· exact hk2); (· first | infer_instance | exact ⟨by simp, fun h => absurd h (by simp)⟩ | (simpa using r3)); (· (try simp); (try omega)); (· (try simp); (try omega)); intro v3 kk3 hA3))); obtain ⟨A3, c3, he, hO3, hF3⟩ := Ow.of_row (f := sC) (fun _ => rfl) hA3.own; subst he; have hcp3 := (own_cap hA3.own).1; obtain ⟨g, rfl, hg⟩ := hO3.own (by simp; (try omega)); have hle1 := hF3 g 0 none rfl; have hle2 := (inferInstance : LeB w.heap.size k3.v.heap.size).h; haveI hlt3 := hg.lt; go_roundw; (case rel => exact ⟨q + 1, (o.take k ++ [x.name]) ++ o.drop k, g, _, by omega, by go_num, by first | rfl | (simp; done), by first | exact hcp3 | (simpa using hcp3), HE.out, ⟨by omega⟩, ex_and (fun W => Ow 1 sC W (some ⟨g, 0, none⟩) ((o.take k ++ [x.name]) ++ o.drop k) ∧ LtW g W) (by (refine Ok.toEx ?_; (repeat (first | (with_reducible exact Ok.rf _) | (with_reducible refine Ok.alloc ?_ _) | (with_reducible refine Ok.ex ?_ _) | (with_reducible refine Ok.drew ?_) | (with_reducible refine Ok.setCellI ?_ _ _ _) | (with_reducible refine Ok.exb ?_ _))))) ⟨inferInstance, inferInstance⟩⟩); (case measure => simp [intOf]; omega))
          · have hkl : k = o.length := by omega
            have g1 : decide ((k : Int) < (o.length : Int)) = false := by simp; omega
            have g3 : ¬ (k : Int) < (o.length : Int) := by omega
            have HE : Hid (toB ((o.take k ++ [x.name]) ++ o.drop k) = csP l (q + 1)) := hid (by rw [HS.out]; exact HI.out (fun h => absurd h hko))
            have HKL := hid hkl
            clear HI HK hkl
            go_wp2_with (fail)
            (refine wp_region_ex (by kernel_rfl) (by kernel_rfl) ?_; (repeat (go_big_quiet_step (fail))); refine wpQuiet_nil ?_; rintro _ ⟨k2, rfl⟩)
            go_wp2_with (fail)
            (refine wp_region_ex (by kernel_rfl) (by kernel_rfl) ?_; (repeat (go_big_quiet_step (fail))); refine wpQuiet_nil ?_; rintro _ ⟨k3, rfl⟩)
            by_cases hcl : c1 = k
            · have hnil : o.drop k = [] := List.drop_eq_nil_of_le (by have := HKL.out; omega)
              rw [hnil] at HE
              have HN := hid hnil
              clear hnil
              have hlen0 : o.length = k := by have := HKL.out; omega
              (have hti : (o.take k).length = k := (by rw [List.length_take]; omega); have htd : (o.drop k).length = o.length - k := List.length_drop ..; have g5 : k ≤ c1 := (by omega); have g6 : k ≤ o.length := (by omega); have g7 : (k : Int) ≤ (c1 : Int) := (by omega); have g8 : (k : Int) ≤ (o.length : Int) := (by omega); have hrd : Rd 1 sC j0.v (some ⟨b, 0, none⟩) o := (by infer_instance); haveI r1 := Rd.take hrd k; haveI r2 : Rd 1 sC j0.v (some ⟨b, k, none⟩) (o.drop k) := (by have h := Rd.drop hrd k; rw [Nat.mul_one, Nat.zero_add] at h; exact h); go_wp2_with (first | (at_builtin; go_loud (refine wpList_appM sC _ rfl _ _ _ rfl k3.v.heap.size ?_ _ _ _ _ Try.underlying51 tgInfo rfl (by omega) (fun _ => ⟨rfl, by simp [sC, Value.oneCell']⟩) _ [] rfl (row_made k3.v k3.v.heap.size (Nat.le_refl _) 9 1 sC) b 0 (o.take k) _ (by rw [hti]; rfl) ?_ ?_ ?_ ?_; (· simp); (· infer_instance); (· (try simp); (try omega)); (· (try simp); (try omega)); intro v1 kk1 hA1; have hk1 : k3.v.heap.size ≤ kk1.v.heap.size := Nat.le_trans (by simp) kk1.h.size; have kB1 : Below k3.v.heap.size k3.v kk1.v := ((Below.refl _ _).alloc (Nat.le_refl _) _).trans kk1.h)) | (at_builtin; go_loud (refine wpList_appZ sC _ rfl _ _ _ rfl k3.v.heap.size ?_ _ _ _ _ Try.underlying51 tgInfo rfl (by omega) (fun _ => ⟨rfl, by simp [sC, Value.oneCell']⟩) v1 (o.take k) rfl (hA1.own.alloc _) x.name _ _ rfl (cellsB ?_) ?_ ?_ ?_; (· (try simp); (try omega)); (· simp); (· (try simp); (try omega)); (· (try simp); (try omega)); intro v2 kk2 hA2; have hk2 : k3.v.heap.size ≤ kk2.v.heap.size := Nat.le_trans hk1 (Nat.le_trans (by simp) kk2.h.size); have kB2 : Below k3.v.heap.size k3.v kk2.v := (kB1.alloc hk1 _).trans kk2.h; haveI r3 : Rd 1 sC kk2.v (some ⟨b, k, none⟩) (o.drop k) := Rd.ex (h := (inferInstance : Rd 1 sC k3.v (some ⟨b, k, none⟩) (o.drop k))) (Ex.of kB2))) | (at_builtin; go_loud (refine wpList_appM sC _ rfl _ _ _ rfl k3.v.heap.size ?_ _ _ _ _ Try.underlying51 tgInfo rfl (by omega) (fun _ => ⟨rfl, by simp [sC, Value.oneCell']⟩) v2 (o.take k ++ [x.name]) rfl hA2.own b 0 [] 0 rfl ?_ ?_ ?_ ?_; (· exact hk2); (· first | infer_instance | exact ⟨by simp, fun h => absurd h (by simp)⟩ | (simpa using r3)); (· (try simp); (try omega)); (· (try simp); (try omega)); intro v3 kk3 hA3))); obtain ⟨A3, c3, he, hO3, hF3⟩ := Ow.of_row (f := sC) (fun _ => rfl) hA3.own; subst he; have hcp3 := (own_cap hA3.own).1; obtain ⟨g, rfl, hg⟩ := hO3.own (by simp; (try omega)); have hle1 := hF3 g 0 none rfl; have hle2 := (inferInstance : LeB w.heap.size k3.v.heap.size).h; haveI hlt3 := hg.lt; go_roundw; (case rel => exact ⟨q + 1, (o.take k ++ [x.name]) ++ [], g, _, by omega, by go_num, by first | rfl | (simp; done), by first | exact hcp3 | (simpa using hcp3), HE.out, ⟨by omega⟩, ex_and (fun W => Ow 1 sC W (some ⟨g, 0, none⟩) ((o.take k ++ [x.name]) ++ []) ∧ LtW g W) (by (refine Ok.toEx ?_; (repeat (first | (with_reducible exact Ok.rf _) | (with_reducible refine Ok.alloc ?_ _) | (with_reducible refine Ok.ex ?_ _) | (with_reducible refine Ok.drew ?_) | (with_reducible refine Ok.setCellI ?_ _ _ _) | (with_reducible refine Ok.exb ?_ _))))) ⟨inferInstance, inferInstance⟩⟩); (case measure => simp [intOf]; omega))
            · (have hti : (o.take k).length = k := (by rw [List.length_take]; omega); have htd : (o.drop k).length = o.length - k := List.length_drop ..; have g5 : k ≤ c1 := (by omega); have g6 : k ≤ o.length := (by omega); have g7 : (k : Int) ≤ (c1 : Int) := (by omega); have g8 : (k : Int) ≤ (o.length : Int) := (by omega); have hrd : Rd 1 sC j0.v (some ⟨b, 0, none⟩) o := (by infer_instance); haveI r1 := Rd.take hrd k; haveI r2 : Rd 1 sC j0.v (some ⟨b, k, none⟩) (o.drop k) := (by have h := Rd.drop hrd k; rw [Nat.mul_one, Nat.zero_add] at h; exact h); go_wp2_with (first | (at_builtin; go_loud (refine wpList_appM sC _ rfl _ _ _ rfl k3.v.heap.size ?_ _ _ _ _ Try.underlying51 tgInfo rfl (by omega) (fun _ => ⟨rfl, by simp [sC, Value.oneCell']⟩) _ [] rfl (row_made k3.v k3.v.heap.size (Nat.le_refl _) 9 1 sC) b 0 (o.take k) _ (by rw [hti]; rfl) ?_ ?_ ?_ ?_; (· simp); (· infer_instance); (· (try simp); (try omega)); (· (try simp); (try omega)); intro v1 kk1 hA1; have hk1 : k3.v.heap.size ≤ kk1.v.heap.size := Nat.le_trans (by simp) kk1.h.size; have kB1 : Below k3.v.heap.size k3.v kk1.v := ((Below.refl _ _).alloc (Nat.le_refl _) _).trans kk1.h)) | (at_builtin; go_loud (refine wpList_appZ sC _ rfl _ _ _ rfl k3.v.heap.size ?_ _ _ _ _ Try.underlying51 tgInfo rfl (by omega) (fun _ => ⟨rfl, by simp [sC, Value.oneCell']⟩) v1 (o.take k) rfl (hA1.own.alloc _) x.name _ _ rfl (cellsB ?_) ?_ ?_ ?_; (· (try simp); (try omega)); (· simp); (· (try simp); (try omega)); (· (try simp); (try omega)); intro v2 kk2 hA2; have hk2 : k3.v.heap.size ≤ kk2.v.heap.size := Nat.le_trans hk1 (Nat.le_trans (by simp) kk2.h.size); have kB2 : Below k3.v.heap.size k3.v kk2.v := (kB1.alloc hk1 _).trans kk2.h; haveI r3 : Rd 1 sC kk2.v (some ⟨b, k, none⟩) (o.drop k) := Rd.ex (h := (inferInstance : Rd 1 sC k3.v (some ⟨b, k, none⟩) (o.drop k))) (Ex.of kB2))) | (at_builtin; go_loud (refine wpList_appM sC _ rfl _ _ _ rfl k3.v.heap.size ?_ _ _ _ _ Try.underlying51 tgInfo rfl (by omega) (fun _ => ⟨rfl, by simp [sC, Value.oneCell']⟩) v2 (o.take k ++ [x.name]) rfl hA2.own b k (o.drop k) (c1 - k) (by rw [htd]; rfl) ?_ ?_ ?_ ?_; (· exact hk2); (· first | infer_instance | exact ⟨by simp, fun h => absurd h (by simp)⟩ | (simpa using r3)); (· (try simp); (try omega)); (· (try simp); (try omega)); intro v3 kk3 hA3))); obtain ⟨A3, c3, he, hO3, hF3⟩ := Ow.of_row (f := sC) (fun _ => rfl) hA3.own; subst he; have hcp3 := (own_cap hA3.own).1; obtain ⟨g, rfl, hg⟩ := hO3.own (by simp; (try omega)); have hle1 := hF3 g 0 none rfl; have hle2 := (inferInstance : LeB w.heap.size k3.v.heap.size).h; haveI hlt3 := hg.lt; go_roundw; (case rel => exact ⟨q + 1, (o.take k ++ [x.name]) ++ o.drop k, g, _, by omega, by go_num, by first | rfl | (simp; done), by first | exact hcp3 | (simpa using hcp3), HE.out, ⟨by omega⟩, ex_and (fun W => Ow 1 sC W (some ⟨g, 0, none⟩) ((o.take k ++ [x.name]) ++ o.drop k) ∧ LtW g W) (by (refine Ok.toEx ?_; (repeat (first | (with_reducible exact Ok.rf _) | (with_reducible refine Ok.alloc ?_ _) | (with_reducible refine Ok.ex ?_ _) | (with_reducible refine Ok.drew ?_) | (with_reducible refine Ok.setCellI ?_ _ _ _) | (with_reducible refine Ok.exb ?_ _))))) ⟨inferInstance, inferInstance⟩⟩); (case measure => simp [intOf]; omega))
    · obtain rfl : q = l.length := by omega
      have hmk : mkS (csP l l.length) = o := by rw [← HO.out, mkS_toB]
      go_wp2
      go_ret2
      rw [HR.out.1, HR.out.2, hmk]
      exact ⟨some ⟨b, 0, none⟩, c1, by rfl, ex_and (fun W => Ow 1 sC W (some ⟨b, 0, none⟩) o ∧ Fr w (some ⟨b, 0, none⟩)) (by (refine Ok.toEx ?_; (repeat (first | (with_reducible exact Ok.rf _) | (with_reducible refine Ok.alloc ?_ _) | (with_reducible refine Ok.ex ?_ _) | (with_reducible refine Ok.drew ?_) | (with_reducible refine Ok.setCellI ?_ _ _ _) | (with_reducible refine Ok.exb ?_ _))))) ⟨inferInstance, ⟨fun g o m e => by cases e; exact hlb.h⟩⟩⟩
theorem iCs_any (A : Option Addr) (c : Nat) (l : List Ln) (w : World) [hl : Lns w A l] (hcap : l.length ≤ c) (hn : l.length ≤ 1048576) {rv : List ByteArray} {re : Int} (hrv : csRV l = rv) (hre : csRE l = re) :
    Calls Try.prog 20 #[.slice A l.length c] w fun e w' => ∃ A' c', e = .returned (.tuple #[.slice A' rv.length c', .int .i64 re]) ∧ ∃ k : Ex w, w' = k.v ∧ Ow 1 sC k.v A' rv ∧ Fr w A' := by
  subst hrv; subst hre
  cases hv : vL l
  · have HR := hid (csRV_no hv)
    have HV := hid hv
    clear hv
    go_enter Try.func20, Try.ntmps20
    go_wp2_with (go_at_call 52; refine (iValid_any _ _ _ _ (by omega) (by omega)).mono ?_; rw [HV.out]; rintro e w' ⟨rfl, k, rfl⟩)
    go_ret2
    rw [HR.out.1, HR.out.2]
    exact ⟨none, 0, by rfl, ex_and (fun W => Ow 1 sC W none ([] : List ByteArray) ∧ Fr w none) (by (refine Ok.toEx ?_; (repeat (first | (with_reducible exact Ok.rf _) | (with_reducible refine Ok.alloc ?_ _) | (with_reducible refine Ok.ex ?_ _) | (with_reducible refine Ok.drew ?_) | (with_reducible refine Ok.setCellI ?_ _ _ _) | (with_reducible refine Ok.exb ?_ _))))) ⟨Ow.nil, inferInstance⟩⟩
  · have HR := hid (csRV_yes hv)
    have HV := hid hv
    clear hv
    have HA := hid hl.at
    go_enter Try.func20, Try.ntmps20
    go_wp2_with (go_at_call 52; refine (iValid_any _ _ _ _ (by omega) (by omega)).mono ?_; rw [HV.out]; rintro e w' ⟨rfl, k, rfl⟩)
    go_loopw [4, 12] (fun v t wr => ∃ q : Nat, q ≤ l.length ∧ t = .int .i64 q ∧ ∃ j : Ex k.v, wr = j.v ∧ j.v.ownsRow k.v.heap.size 9 1 v (csF l q).length ((csF l q).flatMap sC)) (fun _ t _ => l.length - (intOf t).toNat)
    case atStart => exact ⟨0, Nat.zero_le _, rfl, Ex.rf _, rfl, row_nil k.v k.v.heap.size 9 1 sC⟩
    case round =>
      obtain ⟨q, hq, rfl, j0, rfl, hrow⟩ := hrel
      obtain ⟨A1, c1, rfl, hO, hF⟩ := Ow.of_row (f := sC) (fun _ => rfl) hrow
      have HROW := hid hrow
      clear hrow
      have hLL := csF_len l q
      have hLq : (csF l q).length ≤ l.length := by omega
      by_cases hlt : q < l.length
      · obtain ⟨b', o', rfl, hbw, hat⟩ := HA.out (by omega)
        obtain ⟨d0, d1, d2⟩ := hat q hlt
        clear hat hO hF
        have hz1 : (0 : Int) ≤ (q : Int) := by omega
        have hz2 : (q : Int) < (l.length : Int) := by omega
        by_cases hk3 : l[q].kind = 3
        rotate_left
        · have HS := hid (csF_off hlt hk3)
          generalize l[q] = x at *
          go_wp2
          go_roundw
          case rel => exact ⟨q + 1, by omega, by go_num, ex_and (fun W => W.ownsRow k.v.heap.size _ 1 _ _ _) (by (refine Ok.toEx ?_; (repeat (first | (with_reducible exact Ok.rf _) | (with_reducible refine Ok.alloc ?_ _) | (with_reducible refine Ok.ex ?_ _) | (with_reducible refine Ok.drew ?_) | (with_reducible refine Ok.setCellI ?_ _ _ _) | (with_reducible refine Ok.exb ?_ _))))) (by rw [HS.out]; exact ownsRow_ex HROW.out (Ex.of (((Below.refl _ _).alloc (Nat.le_refl _) _))))⟩
          case measure => simp [intOf]; omega
        have HS := hid (csF_on hlt hk3)
        generalize l[q] = x at *
        go_wp2_with (at_builtin; go_loud (refine wpList_appZ sC _ rfl _ _ _ rfl k.v.heap.size ?_ _ _ _ _ Try.underlying51 tgInfo rfl (by omega) (fun _ => ⟨rfl, by simp [sC, Value.oneCell']⟩) (.slice A1 (csF l q).length c1) (csF l q) rfl ((HROW.out.alloc _).alloc _) x.name _ _ rfl (cellsB ?_) ?_ ?_ ?_; (· have := j0.size; simp; omega); (· simp); (· omega); (· omega); intro v2 kk2 hA2))
        go_roundw
        case rel => exact ⟨q + 1, by omega, by go_num, ⟨kk2.v, ((((Below.refl _ _).trans j0.h).alloc j0.size _).alloc (by have := j0.size; simp; omega) _).trans kk2.h⟩, rfl, by rw [HS.out]; exact hA2.own⟩
        case measure => simp [intOf]; omega
      · obtain rfl : q = l.length := by omega
        have HM := hid (cs_main l)
        obtain ⟨o, ho⟩ : ∃ o, csF l l.length = o := ⟨_, rfl⟩
        rw [ho] at hLq HROW HM hO
        rw [ho]
        clear ho
        rcases Nat.eq_zero_or_pos o.length with h0 | h0
        · obtain rfl : o = [] := List.eq_nil_of_length_eq_zero h0
          clear h0 hLq hLL
          go_wp2_with (first | (go_at_call 53; go_loud (refine (Try.slices_Sort_string_none _ _ _).mono ?_; rintro e w' ⟨rfl, rfl⟩)) | (go_at_call 54; go_loud (refine (Try.slices_Compact_string_empty _ _ _).mono ?_; rintro e w' ⟨rfl, rfl⟩)))
          go_ret2
          rw [HR.out.1, HR.out.2, ← HM.out, sort_nil]
          exact ⟨A1, c1, by rfl, ex_and (fun W => Ow 1 sC W A1 ([] : List ByteArray) ∧ Fr w A1) (by (refine Ok.toEx ?_; (repeat (first | (with_reducible exact Ok.rf _) | (with_reducible refine Ok.alloc ?_ _) | (with_reducible refine Ok.ex ?_ _) | (with_reducible refine Ok.drew ?_) | (with_reducible refine Ok.setCellI ?_ _ _ _) | (with_reducible refine Ok.exb ?_ _))))) ⟨Ow.nil, ⟨fun g p m e => Nat.le_trans (inferInstance : LeB w.heap.size k.v.heap.size).h (hF g p m e)⟩⟩⟩
        · obtain ⟨g, rfl, hw⟩ := hO.own (by omega)
          have hFg := hF g 0 none rfl
          have hlw := (inferInstance : LeB w.heap.size k.v.heap.size).h
          haveI hlg : LeB w.heap.size k.v.heap.size := ⟨hlw⟩
          have hob : o.length ≤ 1048576 := by omega
          clear hO hF
          go_wp2_with (first | (go_at_call 53; go_loud ((with_reducible refine (sortT_any k.v.heap.size g c1 o.length o _ HROW.out rfl ?_).mono ?_); (· omega); rintro e w' ⟨rfl, kk1, rfl, hr1⟩)) | (go_at_call 54; go_loud ((with_reducible refine (compT_any k.v.heap.size g c1 o.length (sortK (toB o)) _ hr1 ?_).mono ?_); (· omega); rw [HM.out]; rintro e w' ⟨rfl, kk2, rfl, hr2⟩)))
          go_ret2
          rw [HR.out.1, HR.out.2]
          obtain ⟨A3, c3, he, hO3, hF3⟩ := Ow.of_row (f := sC) (fun _ => rfl) hr2
          cases he
          exact ⟨some ⟨g, 0, none⟩, c1, by rfl, ex_and (fun W => Ow 1 sC W (some ⟨g, 0, none⟩) (mkS (csP l l.length)) ∧ Fr w (some ⟨g, 0, none⟩)) (by (refine Ok.toEx ?_; (repeat (first | (with_reducible exact Ok.rf _) | (with_reducible refine Ok.alloc ?_ _) | (with_reducible refine Ok.ex ?_ _) | (with_reducible refine Ok.drew ?_) | (with_reducible refine Ok.setCellI ?_ _ _ _) | (with_reducible refine Ok.exb ?_ _))))) ⟨hO3, ⟨fun b p m e => by cases e; omega⟩⟩⟩
end
end Go.Proofs.Ytpapphhbogngcaa
