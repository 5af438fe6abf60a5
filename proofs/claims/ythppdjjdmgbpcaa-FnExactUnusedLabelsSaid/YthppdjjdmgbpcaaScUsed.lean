/-
  Contracts of UnusedLabels (a search by a closure), and its law. Conditions: those typed at each theorem.
-/
import Derived.Test.YthppdjjdmgbpcaaScEv
import Derived.Test.YthppdjjdmgbpcaaMkString
namespace Go.Proofs.Ythppdjjdmgbpcaa
open Go.RowKit
/-- is x a jump to nm? -/
def isJmp (nm : ByteArray) (x : Ln) : Prop := x.kind = 4 ∧ (x.name.toList == nm.toList) = true
instance (nm : ByteArray) (x : Ln) : Decidable (isJmp nm x) := by unfold isJmp; infer_instance
/-- does one of the first k lines jump to nm? -/
def usP (l : List Ln) (nm : ByteArray) (k : Nat) : Bool := (l.take k).any fun x => decide (isJmp nm x)
theorem usP_zero (l : List Ln) (nm : ByteArray) : usP l nm 0 = false := rfl
theorem usP_succ {l : List Ln} {nm : ByteArray} {k : Nat} (h : k < l.length) : usP l nm (k + 1) = (usP l nm k || decide (isJmp nm l[k])) := by
  unfold usP; rw [List.take_succ_eq_append_getElem h, List.any_append]; simp
theorem usP_hit {l : List Ln} {nm : ByteArray} {k : Nat} (h : k < l.length) (hj : isJmp nm l[k]) : usP l nm l.length = true := by
  unfold usP; rw [List.take_length, List.any_eq_true]; exact ⟨l[k], List.getElem_mem h, by simpa using hj⟩
theorem usP_miss {l : List Ln} {nm : ByteArray} (h : ∀ j (hj : j < l.length), ¬ isJmp nm l[j]) : usP l nm l.length = false := by
  unfold usP; rw [List.take_length, List.any_eq_false]
  intro x hx
  obtain ⟨j, hj, rfl⟩ := List.getElem_of_mem hx
  simpa using h j hj
def isUn (l : List Ln) (x : Ln) : Prop := x.kind = 1 ∧ usP l x.name l.length = false
instance (l : List Ln) (x : Ln) : Decidable (isUn l x) := by unfold isUn; infer_instance
/-- the labels among the first k lines that no jump names -/
def usF (l : List Ln) (k : Nat) : List ByteArray := ((l.take k).filter fun x => decide (isUn l x)).map Ln.name
theorem usF_on {l : List Ln} {k : Nat} (h : k < l.length) (hu : isUn l l[k]) : usF l (k + 1) = usF l k ++ [l[k].name] := by
  unfold usF; rw [List.take_succ_eq_append_getElem h, List.filter_append, List.map_append]; simp [hu]
theorem usF_off {l : List Ln} {k : Nat} (h : k < l.length) (hu : ¬ isUn l l[k]) : usF l (k + 1) = usF l k := by
  unfold usF; rw [List.take_succ_eq_append_getElem h, List.filter_append, List.map_append]; simp [hu]
theorem usF_len (l : List Ln) (k : Nat) : (usF l k).length ≤ k := by
  unfold usF; rw [List.length_map]; exact Nat.le_trans (List.length_filter_le _ _) (by rw [List.length_take]; omega)
/-- what UnusedLabels answers -/
noncomputable def usR (l : List Ln) : List ByteArray := if vL l = true then usF l l.length else []
noncomputable def usE (l : List Ln) : Int := if vL l = true then 0 else 1
theorem usR_yes {l : List Ln} (h : vL l = true) : usR l = usF l l.length ∧ usE l = 0 := by unfold usR usE; rw [if_pos h, if_pos h]; exact ⟨rfl, rfl⟩
theorem usR_no {l : List Ln} (h : vL l = false) : usR l = [] ∧ usE l = 1 := by unfold usR usE; rw [h]; exact ⟨rfl, rfl⟩
theorem usR_len (l : List Ln) : (usR l).length ≤ l.length := by
  unfold usR
  split
  · exact usF_len _ _
  · simp
section
set_option maxHeartbeats 3200000
theorem infoStr : (Try.prog.info? 9).map (fun i => (i.zero, i.size, i.bytes)) = some (some (.string ⟨#[]⟩), 1, 16) := by kernel_rfl
theorem clJmp_yes (x : Ln) (b : Nat) (nm : ByteArray) (w : World) [LtW b w] (hc : w.cell? ⟨b, 1, none⟩ = some (.string nm)) (h : isJmp nm x) :
    Calls Try.prog 66 #[.agg #[.int .i64 x.kind, .string x.name, .int .i64 x.value], .pointer (some ⟨b, 0, none⟩)] w fun e w' => e = .returned (.bool true) ∧ ∃ k : Ex w, w' = k.v := by
  obtain ⟨h1, h2⟩ := h
  go_enter Try.func66, Try.ntmps66
  go_wp2
  (go_ret; refine ⟨by first | rfl | (simp; done), ?_⟩; (refine Ok.toEx ?_; (repeat (first | (with_reducible exact Ok.rf _) | (with_reducible refine Ok.alloc ?_ _) | (with_reducible refine Ok.ex ?_ _) | (with_reducible refine Ok.drew ?_) | (with_reducible refine Ok.setCellI ?_ _ _ _) | (with_reducible refine Ok.exb ?_ _)))))
theorem clJmp_no (x : Ln) (b : Nat) (nm : ByteArray) (w : World) [LtW b w] (hc : w.cell? ⟨b, 1, none⟩ = some (.string nm)) (h : ¬ isJmp nm x) :
    Calls Try.prog 66 #[.agg #[.int .i64 x.kind, .string x.name, .int .i64 x.value], .pointer (some ⟨b, 0, none⟩)] w fun e w' => e = .returned (.bool false) ∧ ∃ k : Ex w, w' = k.v := by
  have hp' : ¬ x.kind = 4 ∨ (x.kind = 4 ∧ (x.name.toList == nm.toList) = false) := by
    by_cases h1 : x.kind = 4
    · exact .inr ⟨h1, by cases h2 : (x.name.toList == nm.toList) with
        | true => exact absurd ⟨h1, h2⟩ h
        | false => rfl⟩
    · exact .inl h1
  clear h
  rcases hp' with p1 | ⟨p1, p2⟩
  all_goals
    go_enter Try.func66, Try.ntmps66
    go_wp2
    (go_ret; refine ⟨by first | rfl | (simp; done), ?_⟩; (refine Ok.toEx ?_; (repeat (first | (with_reducible exact Ok.rf _) | (with_reducible refine Ok.alloc ?_ _) | (with_reducible refine Ok.ex ?_ _) | (with_reducible refine Ok.drew ?_) | (with_reducible refine Ok.setCellI ?_ _ _ _) | (with_reducible refine Ok.exb ?_ _)))))
theorem idxJmp (A : Option Addr) (c : Nat) (l : List Ln) (b' : Nat) (nm : ByteArray) (w : World) (hl : Lns w A l) [hb' : LtW b' w] (hcell : w.cell? ⟨b', 1, none⟩ = some (.string nm)) :
    Calls Try.prog 77 #[.slice A l.length c, .func (.func 66) #[] #[.pointer (some ⟨b', 0, none⟩)]] w fun e w' => ∃ i : Int, e = .returned (.int .i64 i) ∧ (-1 ≤ i ∧ i ≤ 9223372036854775807 ∧ usP l nm l.length = decide (0 ≤ i)) ∧ ∃ k : Ex w, w' = k.v := by
  have hlen := hl.len
  have hat := hl.at
  clear hl
  have HA := hid hat
  clear hat
  go_enter Try.func77, Try.ntmps77
  go_wp2
  go_loopw [8] (fun t wr => ∃ k : Nat, k ≤ l.length ∧ t = .int .i64 k ∧ (∀ j (hj : j < k) (hl : j < l.length), ¬ isJmp nm l[j]) ∧ ∃ j : Ex w, wr = j.v) (fun t _ => l.length - (intOf t).toNat)
  case atStart => exact ⟨0, Nat.zero_le _, rfl, fun j hj => absurd hj (by omega), Ex.rf w, rfl⟩
  case round =>
    obtain ⟨q, hq, rfl, hb, j0, rfl⟩ := hrel
    have HB := hid hb
    clear hb
    by_cases hlt : q < l.length
    · obtain ⟨b, o, rfl, hbw, hc⟩ := HA.out (by omega)
      have hc := hc q hlt
      obtain ⟨c0, c1, c2⟩ := hc
      by_cases hp : isJmp nm l[q]
      · have HR := hid (usP_hit hlt hp)
        generalize l[q] = x at *
        go_wp2_with ((go_at_call 66; refine (clJmp_yes x b' nm _ ((j0.cell _ _).trans hcell) hp).mono ?_; rintro e w' ⟨rfl, k, rfl⟩))
        go_ret
        refine ⟨_, rfl, ⟨by omega, by omega, by rw [HR.out]; simp⟩, ?_⟩
        (refine Ok.toEx ?_; (repeat (first | (with_reducible exact Ok.rf _) | (with_reducible refine Ok.alloc ?_ _) | (with_reducible refine Ok.ex ?_ _) | (with_reducible refine Ok.drew ?_) | (with_reducible refine Ok.setCellI ?_ _ _ _) | (with_reducible refine Ok.exb ?_ _))))
      · have hnx : ∀ j (hj : j < q + 1) (hl : j < l.length), ¬ isJmp nm l[j] := fun j hj hl => by
          rcases Nat.lt_or_ge j q with h | h
          · exact HB.out j h hl
          · obtain rfl : j = q := by omega
            exact hp
        have HN := hid hnx
        clear hnx
        generalize l[q] = x at *
        go_wp2_with ((go_at_call 66; refine (clJmp_no x b' nm _ ((j0.cell _ _).trans hcell) hp).mono ?_; rintro e w' ⟨rfl, k, rfl⟩))
        go_roundw
        case rel => exact ⟨q + 1, by omega, by go_num, HN.out, j0.tr k, rfl⟩
        case measure => simp [intOf]; omega
    · go_wp2
      go_ret
      exact ⟨-1, rfl, ⟨by omega, by omega, by rw [usP_miss fun j hj => HB.out j (by omega) hj]; rfl⟩, j0, rfl⟩
theorem conJmp (A : Option Addr) (c : Nat) (l : List Ln) (b' : Nat) (nm : ByteArray) (w : World) (hl : Lns w A l) [hb' : LtW b' w] (hcell : w.cell? ⟨b', 1, none⟩ = some (.string nm)) :
    Calls Try.prog 65 #[.slice A l.length c, .func (.func 66) #[] #[.pointer (some ⟨b', 0, none⟩)]] w fun e w' => e = .returned (.bool (usP l nm l.length)) ∧ ∃ k : Ex w, w' = k.v := by
  have HL := hid hl
  clear hl
  go_enter Try.func65, Try.ntmps65
  go_wp2_with (go_at_call 77; refine (idxJmp A c l b' nm _ (haveI := HL.out; inferInstance) hcell).mono ?_; rintro e w' ⟨i, rfl, ⟨hi0, hi1, hi2⟩, k, rfl⟩)
  go_ret
  refine ⟨by rw [hi2]; first | rfl | (simp; done) | (simp; omega), ?_⟩
  (refine Ok.toEx ?_; (repeat (first | (with_reducible exact Ok.rf _) | (with_reducible refine Ok.alloc ?_ _) | (with_reducible refine Ok.ex ?_ _) | (with_reducible refine Ok.drew ?_) | (with_reducible refine Ok.setCellI ?_ _ _ _) | (with_reducible refine Ok.exb ?_ _))))
theorem iUsed_any (A : Option Addr) (c : Nat) (l : List Ln) (w : World) [hl : Lns w A l] (hcap : l.length ≤ c) (hn : l.length ≤ 1048576) :
    Calls Try.prog 29 #[.slice A l.length c] w fun e w' => ∃ A' c', e = .returned (.tuple #[.slice A' (usR l).length c', .int .i64 (usE l)]) ∧ ∃ k : Ex w, w' = k.v ∧ Ow 1 sC k.v A' (usR l) ∧ Fr w A' := by
  have HL := hid hl
  have HA := hid hl.at
  cases hv : vL l
  · have HR := hid (usR_no hv)
    go_enter Try.func29, Try.ntmps29
    go_wp2_with (go_at_call 25; refine (iValid_any _ _ _ _ (by omega) (by omega)).mono ?_; rw [hv]; rintro e w' ⟨rfl, k, rfl⟩)
    go_ret2
    rw [HR.out.1, HR.out.2]
    exact ⟨none, 0, by rfl, k, rfl, Ow.nil, inferInstance⟩
  · have HR := hid (usR_yes hv)
    go_enter Try.func29, Try.ntmps29
    go_wp2_with (go_at_call 25; refine (iValid_any _ _ _ _ (by omega) (by omega)).mono ?_; rw [hv]; rintro e w' ⟨rfl, k, rfl⟩)
    clear hv
    have hrow0 := hid (row_nil k.v k.v.heap.size 9 1 sC)
    go_loopw [4, 13] (fun v t wr => ∃ q : Nat, q ≤ l.length ∧ t = .int .i64 q ∧ ∃ j : Ex k.v, wr = j.v ∧ j.v.ownsRow k.v.heap.size 9 1 v (usF l q).length ((usF l q).flatMap sC)) (fun _ t _ => l.length - (intOf t).toNat)
    case atStart => exact ⟨0, Nat.zero_le _, rfl, Ex.rf _, rfl, hrow0.out⟩
    case round =>
      (obtain ⟨qq, hq, rfl, j0, rfl, hrow⟩ := hrel; have hln := usF_len l qq; obtain ⟨A1, c1, rfl, -, -⟩ := own_of_row (w0 := k.v) (f := sC) (fun _ => rfl) hrow; have HROW := hid hrow; clear hrow)
      by_cases hlt : qq < l.length
      · obtain ⟨b, o, rfl, hbw, hc⟩ := HA.out (by omega)
        obtain ⟨d0, d1, d2⟩ := hc qq hlt
        clear hc
        by_cases hu : isUn l l[qq]
        · have HU := hid (usF_on hlt hu)
          obtain ⟨hu1, hu2⟩ := hu
          generalize l[qq] = x at *
          go_wp2_with (first | (go_at_call 65; refine (conJmp (some ⟨b, o, none⟩) c l j0.v.heap.size x.name _ (haveI := HL.out; inferInstance) (by simp [go_sem])).mono ?_; rw [hu2]; rintro e w' ⟨rfl, k2, rfl⟩) | (at_builtin; refine wpList_app sC _ rfl _ _ _ rfl k.v _ _ _ _ Try.underlying34 infoStr rfl (by omega) (fun _ => ⟨rfl, by simp [sC, Value.oneCell']⟩) _ (usF l qq) rfl ((ownsRow_ex (HROW.out.alloc _) k2).alloc _) x.name _ _ rfl (cell1 _ _ _) (by omega) (by omega) ?_; intro v1 k1 h1'))
          go_roundw
          case rel => exact ⟨qq + 1, by omega, by go_num, k1, rfl, by rw [HU.out]; exact h1'⟩
          case measure => simp [intOf]; omega
        · have HU := hid (usF_off hlt hu)
          have hu' : ¬ l[qq].kind = 1 ∨ (l[qq].kind = 1 ∧ usP l l[qq].name l.length = true) := by
            by_cases h1 : l[qq].kind = 1
            · exact .inr ⟨h1, by cases h2 : usP l l[qq].name l.length with
                | true => rfl
                | false => exact absurd ⟨h1, h2⟩ hu⟩
            · exact .inl h1
          clear hu
          generalize l[qq] = x at *
          cases hp : usP l x.name l.length
          all_goals rcases hu' with hu1 | ⟨hu1, hu2⟩
          all_goals first | (exfalso; rw [hp] at hu2; exact Bool.noConfusion hu2) | skip
          all_goals
            go_wp2_with (go_at_call 65; refine (conJmp (some ⟨b, o, none⟩) c l j0.v.heap.size x.name _ (haveI := HL.out; inferInstance) (by simp [go_sem])).mono ?_; rw [hp]; rintro e w' ⟨rfl, k2, rfl⟩)
            go_roundw
            case rel =>
              refine ⟨qq + 1, by omega, by go_num, ex_and (fun W => W.ownsRow k.v.heap.size _ 1 _ _ _) (by (refine Ok.toEx ?_; (repeat (first | (with_reducible exact Ok.rf _) | (with_reducible refine Ok.alloc ?_ _) | (with_reducible refine Ok.ex ?_ _) | (with_reducible refine Ok.drew ?_) | (with_reducible refine Ok.setCellI ?_ _ _ _) | (with_reducible refine Ok.exb ?_ _))))) ?_⟩
              rw [HU.out]
              exact ownsRow_ex (HROW.out.alloc _) k2
            case measure => simp [intOf]; omega
      · obtain rfl : qq = l.length := by omega
        go_wp2
        (go_ret2; obtain ⟨A2, c2, he, hO2, hF2⟩ := own_of_row (w0 := k.v) (f := sC) (fun _ => rfl) HROW.out; cases he; rw [HR.out.1, HR.out.2]; exact ⟨A1, c1, by rfl, k.tr j0, rfl, hO2, hF2.mono⟩)
theorem sUsed_any (A : Option Addr) (c : Nat) (l : List Ln) (w : World) [hl : Lns w A l] (hn : l.length ≤ 1048576) :
    Calls Try.prog 28 #[.slice A l.length c] w fun e w' => ∃ A' c', e = .returned (.tuple #[.slice A' (usR l).length c', .int .i64 (usE l)]) ∧ ∃ k : Ex w, w' = k.v ∧ Ow 1 sC k.v A' (usR l) ∧ Fr w A' := by
  have HA := hid hl.at
  cases hv : vL l
  · have HR := hid (usR_no hv)
    go_enter Try.func28, Try.ntmps28
    go_wp2_with (go_at_call 60; refine (l15Ok_any _ _ _ _ (by omega)).mono ?_; rw [hv]; rintro e w' ⟨rfl, k, rfl⟩)
    go_ret2
    rw [HR.out.1, HR.out.2]
    exact ⟨none, 0, by rfl, k, rfl, Ow.nil, inferInstance⟩
  · have HR := hid (usR_yes hv)
    go_enter Try.func28, Try.ntmps28
    go_wp2_with (go_at_call 60; refine (l15Ok_any _ _ _ _ (by omega)).mono ?_; rw [hv]; rintro e w' ⟨rfl, k, rfl⟩)
    clear hv
    have hrow0 := hid (row_made k.v k.v.heap.size (Nat.le_refl _) 9 1 sC)
    go_loopw [4, 5] (fun v t wr => ∃ q : Nat, q ≤ l.length ∧ t = .int .i64 q ∧ ∃ j : Ex k.v, wr = j.v ∧ j.v.ownsRow k.v.heap.size 9 1 v (usF l q).length ((usF l q).flatMap sC)) (fun _ t _ => l.length - (intOf t).toNat)
    case atStart => exact ⟨0, Nat.zero_le _, rfl, ⟨_, (Below.refl _ _).alloc (Nat.le_refl _) _⟩, rfl, hrow0.out⟩
    case round =>
      (obtain ⟨qq, hq, rfl, j0, rfl, hrow⟩ := hrel; have hln := usF_len l qq; obtain ⟨A1, c1, rfl, -, -⟩ := own_of_row (w0 := k.v) (f := sC) (fun _ => rfl) hrow; have HROW := hid hrow; clear hrow)
      by_cases hlt : qq < l.length
      · obtain ⟨b, o, rfl, hbw, hc⟩ := HA.out (by omega)
        have HC := hid hc
        obtain ⟨d0, d1, d2⟩ := hc qq hlt
        clear hc
        by_cases hk : l[qq].kind = 1
        · have HU : Hid (usP l l[qq].name l.length = false → usF l (qq + 1) = usF l qq ++ [l[qq].name]) := hid fun h => usF_on hlt ⟨hk, h⟩
          have HV : Hid (usP l l[qq].name l.length = true → usF l (qq + 1) = usF l qq) := hid fun h => usF_off hlt fun hu => by rw [hu.2] at h; exact Bool.noConfusion h
          generalize l[qq] = x at *
          go_wp2
          go_loopw [6, 7] (fun u t wr => ∃ p : Nat, p ≤ l.length ∧ t = .int .i64 p ∧ u = .bool (usP l x.name p) ∧ ∃ j : Ex k.v, wr = j.v ∧ j.v.ownsRow k.v.heap.size 9 1 (.slice A1 (usF l qq).length c1) (usF l qq).length ((usF l qq).flatMap sC)) (fun _ t _ => l.length - (intOf t).toNat)
          case atStart => exact ⟨0, Nat.zero_le _, rfl, rfl, j0, rfl, HROW.out⟩
          case round =>
            obtain ⟨p, hp, rfl, rfl, j1, rfl, hrow1⟩ := hrel
            have HR1 := hid hrow1
            clear hrow1
            by_cases hlp : p < l.length
            · obtain ⟨e0, e1, e2⟩ := HC.out p hlp
              have HS := hid (usP_succ (nm := x.name) hlp)
              have HJ : Hid (isJmp x.name l[p] ↔ l[p].kind = 4 ∧ (l[p].name.toList == x.name.toList) = true) := hid Iff.rfl
              generalize l[p] = y at *
              cases hz : usP l x.name p
              · by_cases h4 : y.kind = 4
                · cases hnn : (y.name.toList == x.name.toList)
                  · have HT : Hid (decide (isJmp x.name y) = false) := hid (by rw [decide_eq_false_iff_not, HJ.out, hnn]; simp)
                    go_wp2
                    (refine wp_region_ex (by kernel_rfl) (by kernel_rfl) ?_; (repeat (go_big_quiet_step ((fail)))); refine wpQuiet_nil ?_; rintro _ ⟨k, rfl⟩)
                    go_wp2
                    go_roundw
                    case rel => exact ⟨p + 1, by omega, by go_num, by rw [HS.out, hz, HT.out]; rfl, j1.tr k, rfl, ownsRow_ex HR1.out k⟩
                    case measure => simp [intOf]; omega
                  · have HT : Hid (decide (isJmp x.name y) = true) := hid (by rw [decide_eq_true_iff, HJ.out, hnn]; exact ⟨h4, rfl⟩)
                    go_wp2
                    (refine wp_region_ex (by kernel_rfl) (by kernel_rfl) ?_; (repeat (go_big_quiet_step ((fail)))); refine wpQuiet_nil ?_; rintro _ ⟨k, rfl⟩)
                    go_wp2
                    go_roundw
                    case rel => exact ⟨p + 1, by omega, by go_num, by rw [HS.out, hz, HT.out]; rfl, j1.tr k, rfl, ownsRow_ex HR1.out k⟩
                    case measure => simp [intOf]; omega
                · have HT : Hid (decide (isJmp x.name y) = false) := hid (by rw [decide_eq_false_iff_not, HJ.out]; exact fun h => h4 h.1)
                  have h4b : decide (y.kind = 4) = false := decide_eq_false h4
                  have h4c : (y.kind == 4) = false := by rw [beq_eq_false_iff_ne]; exact h4
                  go_wp2
                  (refine wp_region_ex (by kernel_rfl) (by kernel_rfl) ?_; (repeat (go_big_quiet_step ((fail)))); refine wpQuiet_nil ?_; rintro _ ⟨k, rfl⟩)
                  go_wp2
                  go_roundw
                  case rel => exact ⟨p + 1, by omega, by go_num, by rw [HS.out, hz, HT.out]; rfl, j1.tr k, rfl, ownsRow_ex HR1.out k⟩
                  case measure => simp [intOf]; omega
              · go_wp2
                (refine wp_region_ex (by kernel_rfl) (by kernel_rfl) ?_; (repeat (go_big_quiet_step ((fail)))); refine wpQuiet_nil ?_; rintro _ ⟨k, rfl⟩)
                go_wp2
                go_roundw
                case rel => exact ⟨p + 1, by omega, by go_num, by rw [HS.out, hz]; rfl, j1.tr k, rfl, ownsRow_ex HR1.out k⟩
                case measure => simp [intOf]; omega
            · obtain rfl : p = l.length := by omega
              cases hz : usP l x.name l.length
              · go_wp2_with ((at_builtin; refine wpList_app sC _ rfl _ _ _ rfl k.v _ _ _ _ Try.underlying34 infoStr rfl (by omega) (fun _ => ⟨rfl, by simp [sC, Value.oneCell']⟩) _ (usF l qq) rfl (HR1.out.alloc _) x.name _ _ rfl (cell1 _ _ _) (by omega) (by omega) ?_; intro v1 k1 h1'))
                go_roundw
                case rel => exact ⟨qq + 1, by omega, by go_num, k1, rfl, by rw [HU.out hz]; exact h1'⟩
                case measure => simp [intOf]; omega
              · go_wp2
                go_roundw
                case rel => exact ⟨qq + 1, by omega, by go_num, j1, rfl, by rw [HV.out hz]; exact HR1.out⟩
                case measure => simp [intOf]; omega
        · have HU := hid (usF_off hlt (fun hu => hk hu.1))
          generalize l[qq] = x at *
          go_wp2
          go_roundw
          case rel => exact ⟨qq + 1, by omega, by go_num, j0, rfl, by rw [HU.out]; exact HROW.out⟩
          case measure => simp [intOf]; omega
      · obtain rfl : qq = l.length := by omega
        go_wp2
        (go_ret2; obtain ⟨A2, c2, he, hO2, hF2⟩ := own_of_row (w0 := k.v) (f := sC) (fun _ => rfl) HROW.out; cases he; rw [HR.out.1, HR.out.2]; exact ⟨A1, c1, by rfl, k.tr j0, rfl, hO2, hF2.mono⟩)
end
end Go.Proofs.Ythppdjjdmgbpcaa
