/-
  SetKey of the program. Conditions: those typed at each theorem.
-/
import Derived.Test.YtebapdgajjimpaaTrSp
import Derived.Test.YtebapdgajjimpaaKyIns
import Derived.Test.YtebapdgajjimpaaTrZ
namespace Go.Proofs.Ytebapdgajjimpaa
open Go.RowKit
section
variable {α : Type} {sz : Nat} {f : α → List Value} {w : World} {g : Nat} {l : List α}
/-- the list with x in place p -/
def setL (l : List α) (p : Nat) (x : α) : List α := l.set p x
theorem Wr.put (hf : ∀ x, (f x).length = sz) (h : Wr sz f w g l) (p : Nat) (hp : p < l.length) (x : α) : Wr sz f (setCells w g (p * sz) (f x)) g (l.set p x) := by
  obtain ⟨e, N, F, hN, hr, hc⟩ := h.row
  obtain ⟨G, a1, a2, a3⟩ := rowIs_setCells (f x) w (p * sz) F hr
  refine ⟨by rw [List.length_set]; exact h.len, ⟨e, N, G, by rw [List.length_set]; exact hN, a1, fun k hk j v hv hj => ?_⟩, fun y _ => hf y⟩
  rw [List.length_set] at hk
  rw [List.getElem_set] at hv
  by_cases hkp : p = k
  · subst hkp
    rw [if_pos rfl] at hv
    exact a3 j v hv
  · rw [if_neg hkp] at hv
    rw [a2 _ ?_]
    · exact hc k hk j v hv hj
    · rw [hf]
      rcases Nat.lt_or_ge k p with h1 | h1
      · have := Nat.mul_le_mul_right sz (Nat.succ_le_of_lt h1)
        rw [Nat.succ_mul] at this
        exact .inl (by omega)
      · have := Nat.mul_le_mul_right sz (show p + 1 ≤ k by omega)
        rw [Nat.succ_mul] at this
        exact .inr (by omega)
end
theorem repL_set {l : List Ky} {p : Nat} (hp : p < l.length) (x : Ky) : repL l p x = l.set p x := by
  rw [List.set_eq_take_append_cons_drop, if_pos hp]
  unfold repL
  simp
/-- the place where x goes -/
theorem st_at (l : List Ky) (t : Int) : ∃ p, p ≤ l.length ∧ (∀ j, j < p → (kyG l j).t < t) ∧ (p < l.length → t ≤ (kyG l p).t) := by
  rcases st_part l t with ⟨q, hq, h1, h2⟩ | h
  · exact ⟨q, by omega, h2, fun _ => h1⟩
  · exact ⟨l.length, Nat.le_refl _, h, fun h => absurd h (by omega)⟩
theorem vT_ris {nm : ByteArray} {l : List Ky} (h : vT nm l = true) : risK l := (vT_of h).2.ris
section
set_option maxHeartbeats 6400000
set_option maxRecDepth 20000
theorem cloneK_row (A : Option Addr) (c : Nat) (l : List Ky) (w : World) [hl : Rd 2 kC w A l] (h1 : 1 ≤ l.length) (hn : l.length ≤ 1048576) :
    Calls Try.prog 29 #[.slice A l.length c] w fun e w' => ∃ g c', e = .returned (.slice (some ⟨g, 0, none⟩) l.length c') ∧ l.length ≤ c' ∧ ∃ k : Ex w, w' = k.v ∧ k.v.ownsRow w.heap.size 34 2 (.slice (some ⟨g, 0, none⟩) l.length c') l.length (l.flatMap kC) ∧ Wr 2 kC k.v g l ∧ LeB w.heap.size g := by
  obtain ⟨b, o, rfl, hbw, -⟩ := hl.at_ (by omega)
  have q27 : ∀ (w : World) (a : Option Addr) (n c n' c' : Nat), (binOp .eql 28 (.slice a n c) (.slice none n' c')).run Try.prog w = .ok (.bool a.isNone) w := fun w a n c n' c' => Lib.run_eql_slice_nil w _ _ a n c n' c' Try.underlying28
  go_enter Try.func29, Try.ntmps29
  go_wp2_with (at_builtin; refine wpList_appN kC _ rfl _ _ _ rfl w.heap.size ?_ _ _ _ _ Try.underlying28 infoKey rfl (by omega) (fun _ => ⟨rfl, by simp [kC, Value.oneCell']⟩) (.slice (some ⟨w.heap.size, 0, none⟩) 0 0) [] rfl ?_ (some ⟨b, o, none⟩) l c rfl ?_ (fun h => by cases h) ?_ ?_ ?_; (· simp); (· exact World.ownsRow_made _ #[] 0 (Nat.le_refl _) (by simp [maxLen]) (by simp)); (· infer_instance); (· simp; omega); (· simp; omega); intro v' k' hown')
  go_ret
  obtain ⟨A2, c2, hv, hO2, hF2⟩ := Ow.of_row (f := kC) (fun _ => rfl) hown'
  subst hv
  obtain ⟨g, rfl, hg⟩ := hO2.own (by simp; omega)
  refine ⟨g, c2, by simp, ?_, ex_and (fun W => W.ownsRow w.heap.size 34 2 (.slice (some ⟨g, 0, none⟩) l.length c2) l.length (l.flatMap kC) ∧ Wr 2 kC W g l ∧ LeB w.heap.size g) (by (refine Ok.toEx ?_; (repeat (first | (with_reducible exact Ok.rf _) | (with_reducible refine Ok.alloc ?_ _) | (with_reducible refine Ok.ex ?_ _) | (with_reducible refine Ok.drew ?_) | (with_reducible refine Ok.setCellI ?_ _ _ _) | (with_reducible refine Ok.exb ?_ _))))) ⟨by simpa using hown', by simpa using hg, ⟨hF2 g 0 none rfl⟩⟩⟩
  rcases hown'.2 with ⟨h, _⟩ | ⟨g', cap, cur, h, _, _, hc, _⟩
  · cases h
  · cases h; simpa using hc

theorem iSet_any (nm : ByteArray) (A : Option Addr) (c : Nat) (l : List Ky) (x : Ky) (w : World) [hl : Rd 2 kC w A l] (hs : nm.size ≤ maxLen) (hn : l.length ≤ 1048576) :
    Calls Try.prog 9 #[.agg #[.string nm, .slice A l.length c], .agg #[.int .i64 x.t, .int .i64 x.v]] w (TrPost (stR nm l x) w) := by
  cases hv : vT nm l
  · have HR := hid (stR_inv (x := x) hv)
    go_enter Try.func9, Try.ntmps9
    go_wp2_with ((go_at_call 27; (with_reducible refine (iVT_any nm _ _ l _ hs hn).mono ?_); rw [hv]; rintro e w' ⟨rfl, k, rfl⟩))
    (refine bodyPost_ret (v := _) (by first | (simp [results, Try.results9, go_sem]; done) | (simp [results, Try.results9, go_sem]; rfl)) rfl ?_; rw [HR.out]; refine trPost_err (by rfl) ?_; (refine Ok.toEx ?_; (repeat (first | (with_reducible exact Ok.rf _) | (with_reducible refine Ok.alloc ?_ _) | (with_reducible refine Ok.ex ?_ _) | (with_reducible refine Ok.drew ?_) | (with_reducible refine Ok.setCellI ?_ _ _ _) | (with_reducible refine Ok.exb ?_ _)))))
  · by_cases hd : okKy x
    rotate_left
    · have HR := hid (stR_rng hv hd)
      rcases okKy_not hd with h | ⟨h1, h⟩
      all_goals
        clear hd
        go_enter Try.func9, Try.ntmps9
        go_wp2_with (first | (go_at_call 27; (with_reducible refine (iVT_any nm _ _ l _ hs hn).mono ?_); rw [hv]; rintro e w' ⟨rfl, k, rfl⟩) | (go_at_call 28; first | (refine (vk_yes x _ (by omega) (by omega) (by omega) (by omega)).mono ?_; rintro e w' ⟨rfl, k, rfl⟩) | (refine (vk_no x _ (by omega)).mono ?_; rintro e w' ⟨rfl, k, rfl⟩)))
        (refine bodyPost_ret (v := _) (by first | (simp [results, Try.results9, go_sem]; done) | (simp [results, Try.results9, go_sem]; rfl)) rfl ?_; rw [HR.out]; refine trPost_err (by rfl) ?_; (refine Ok.toEx ?_; (repeat (first | (with_reducible exact Ok.rf _) | (with_reducible refine Ok.alloc ?_ _) | (with_reducible refine Ok.ex ?_ _) | (with_reducible refine Ok.drew ?_) | (with_reducible refine Ok.setCellI ?_ _ _ _) | (with_reducible refine Ok.exb ?_ _)))))
    · have hk := (vT_of hv).2.vk
      obtain ⟨hk1, hk2⟩ := hk.n
      have hr := vT_ris hv
      have HFull := hid (stR_full hv hd)
      have HGo := hid (stR_go hv hd)
      obtain ⟨⟨hx1, hx2⟩, ⟨hx3, hx4⟩⟩ := hd
      obtain ⟨p, hp, hlo, hhi⟩ := st_at l x.t
      have HHit := hid (fun h1 h2 => stA_hit (x := x) h1 hlo h2 hr)
      have HIns := hid (fun h1 h2 => stA_ins (x := x) h1 hlo h2 hr)
      have HEnd : Hid (p = l.length → stA l x = insL l l.length x) := hid (fun h => stA_end (by rw [← h]; exact hlo))
      have HLO := hid hlo
      have HHI := hid hhi
      clear hk hr hlo hhi
      go_enter Try.func9, Try.ntmps9
      go_wp2_with (first | (go_at_call 27; (with_reducible refine (iVT_any nm _ _ l _ hs hn).mono ?_); rw [hv]; rintro e w' ⟨rfl, k, rfl⟩) | (go_at_call 28; first | (refine (vk_yes x _ (by omega) (by omega) (by omega) (by omega)).mono ?_; rintro e w' ⟨rfl, k, rfl⟩) | (refine (vk_no x _ (by omega)).mono ?_; rintro e w' ⟨rfl, k, rfl⟩)) | (go_at_call 29; go_loud ((with_reducible refine (cloneK_row _ _ l _ ?_ ?_).mono ?_); (· omega); (· omega); rintro e w' ⟨g, c9, rfl, hcc, k9, rfl, hO9, hw9, hg9⟩)))
      clear hv
      have hlt9 := hw9.lt
      haveI howr : OwR k.v.heap.size 34 2 (.slice (some ⟨g, 0, none⟩) l.length c9) l.length (l.flatMap kC) k9.v := ⟨hO9⟩
      clear hO9
      have hfz : ∀ i, k9.v.frozen? ⟨g, i, none⟩ = false := by
        obtain ⟨e, N, F, -, hr, -⟩ := hw9.row
        exact fun i => hr.frozen i
      have HFZ := hid hfz
      clear hfz
      have hkw := (inferInstance : LtW (w.heap.size + 1 + 1) k.v).h
      have hgk := hg9.h
      haveI hlwg : LeB w.heap.size g := ⟨by omega⟩
      haveI : NeB w.heap.size g := ⟨by omega⟩
      haveI : NeB (w.heap.size + 1) g := ⟨by omega⟩
      haveI : NeB (w.heap.size + 1 + 1) g := ⟨by omega⟩
      go_loopw [7] (fun t wr => ∃ q : Nat, q ≤ p ∧ t = .int .i64 q ∧ ∃ j : Ex k9.v, wr = j.v) (fun t _ => p - (intOf t).toNat)
      case atStart => exact ⟨0, Nat.zero_le _, rfl, Ex.rf _, rfl⟩
      case round =>
        obtain ⟨q, hq, rfl, j0, rfl⟩ := hrel
        have HK9 := hid ((inferInstance : Rd 2 kC j0.v (some ⟨g, 0, none⟩) l).kg)
        have hz1 : (0 : Int) ≤ (q : Int) := by omega
        by_cases hlt : q < p
        · obtain ⟨b', o', hbo, hbw, hca⟩ := HK9.out (by omega)
          cases hbo
          obtain ⟨c0, c1⟩ := hca q (by omega)
          simp only [Nat.zero_add] at c0 c1
          clear hca
          have hy := HLO.out q hlt
          have hz2 : (q : Int) < (l.length : Int) := by omega
          have g1 : decide ((q : Int) < (l.length : Int)) = true := by simp; omega
          generalize kyG l q = y at *
          have g2 : decide (y.t < x.t) = true := by simp; omega
          go_wp2_with (fail)
          (refine wp_region_ex (by kernel_rfl) (by kernel_rfl) ?_; (repeat (go_big_quiet_step (fail))); refine wpQuiet_nil ?_; rintro _ ⟨k2, rfl⟩)
          go_wp2
          go_roundw
          case rel => exact ⟨q + 1, by omega, by go_num, by (refine Ok.toEx ?_; (repeat (first | (with_reducible exact Ok.rf _) | (with_reducible refine Ok.alloc ?_ _) | (with_reducible refine Ok.ex ?_ _) | (with_reducible refine Ok.drew ?_) | (with_reducible refine Ok.setCellI ?_ _ _ _) | (with_reducible refine Ok.exb ?_ _))))⟩
          case measure => simp [intOf]; omega
        · obtain rfl : q = p := by omega
          by_cases hpl : q < l.length
          · obtain ⟨b', o', hbo, hbw, hca⟩ := HK9.out (by omega)
            cases hbo
            obtain ⟨c0, c1⟩ := hca q (by omega)
            simp only [Nat.zero_add] at c0 c1
            clear hca
            have hy := HHI.out hpl
            have hz2 : (q : Int) < (l.length : Int) := by omega
            have g1 : decide ((q : Int) < (l.length : Int)) = true := by simp; omega
            have g2 : decide ((kyG l q).t < x.t) = false := by simp; omega
            by_cases he : (kyG l q).t = x.t
            · have HL : Hid (stA l x = l.set q x) := hid (by rw [HHit.out hpl he, repL_set hpl])
              have hlen : (l.set q x).length = l.length := List.length_set ..
              have HR := hid (HGo.out (by rw [HL.out, hlen]; omega))
              clear hlen
              generalize kyG l q = y at *
              have g3 : (y.t == x.t) = true := by rw [beq_iff_eq]; exact he
              have f0 := HFZ.out (q * 2)
              have f1 := HFZ.out (q * 2 + 1)
              go_wp2_with (fail)
              (refine wp_region_ex (by kernel_rfl) (by kernel_rfl) ?_; (repeat (go_big_quiet_step (fail))); refine wpQuiet_nil ?_; rintro _ ⟨k2, rfl⟩)
              go_wp2_with (fail)
              (refine wp_region_ex (by kernel_rfl) (by kernel_rfl) ?_; (repeat (go_big_quiet_step (fail))); refine wpQuiet_nil ?_; rintro _ ⟨k3, rfl⟩)
              go_wp2
              have hw5 := Wr.put (f := kC) (fun _ => rfl) (inferInstance : Wr 2 kC k3.v g l) q hpl x
              haveI hw6 : Wr 2 kC ((k3.v.setCell ⟨g, q * 2, none⟩ (.int .i64 x.t)).setCell ⟨g, q * 2 + 1, none⟩ (.int .i64 x.v)) g (l.set q x) := hw5
              refine bodyPost_ret (v := _) (by first | (simp [results, Try.results9, go_sem]; done) | (simp [results, Try.results9, go_sem]; rfl)) rfl ?_
              rw [HR.out, HL.out]
              refine trPostN_ok (List.length_set ..) (by rfl) ?_ (by infer_instance) ⟨by omega⟩
              (refine Ok.toEx ?_; (repeat (first | (with_reducible exact Ok.rf _) | (with_reducible refine Ok.alloc ?_ _) | (with_reducible refine Ok.ex ?_ _) | (with_reducible refine Ok.drew ?_) | (with_reducible refine Ok.setCellI ?_ _ _ _) | (with_reducible refine Ok.exb ?_ _))))
            · have HL : Hid (stA l x = insL l q x) := hid (HIns.out hpl (by omega))
              generalize kyG l q = y at *
              have g3 : (y.t == x.t) = false := by rw [beq_eq_false_iff_ne]; exact he
              go_wp2_with (fail)
              (refine wp_region_ex (by kernel_rfl) (by kernel_rfl) ?_; (repeat (go_big_quiet_step (fail))); refine wpQuiet_nil ?_; rintro _ ⟨k2, rfl⟩)
              go_wp2_with (fail)
              (refine wp_region_ex (by kernel_rfl) (by kernel_rfl) ?_; (repeat (go_big_quiet_step (fail))); refine wpQuiet_nil ?_; rintro _ ⟨k3, rfl⟩)
              by_cases hfl : l.length = 24
              · have hfi : ((l.length : Int) == 24) = true := by rw [hfl]; rfl
                have HR := hid (HFull.out (by rw [HL.out, insL_len l _ x (by omega)]; omega))
                clear hfl
                go_wp2
                (refine bodyPost_ret (v := _) (by first | (simp [results, Try.results9, go_sem]; done) | (simp [results, Try.results9, go_sem]; rfl)) rfl ?_; rw [HR.out]; refine trPost_err (by rfl) ?_; (refine Ok.toEx ?_; (repeat (first | (with_reducible exact Ok.rf _) | (with_reducible refine Ok.alloc ?_ _) | (with_reducible refine Ok.ex ?_ _) | (with_reducible refine Ok.drew ?_) | (with_reducible refine Ok.setCellI ?_ _ _ _) | (with_reducible refine Ok.exb ?_ _)))))
              · have hfi : ((l.length : Int) == 24) = false := by rw [beq_eq_false_iff_ne]; omega
                have HR := hid (HGo.out (by rw [HL.out, insL_len l _ x (by omega)]; omega))
                clear hfl
                go_wp2_with ((go_at_call 30; go_loud ((refine (insAt (W0 := k.v) (some ⟨g, 0, none⟩) c9 l.length q l x _ _ _ owR_h rfl (by omega) hn ?_ ?_).mono ?_); (· exact (heap_alloc_new _ _)); (· intro g' hg'; cases hg'; have h1 := (inferInstance : LtW g k3.v).h; omega); rintro e w' h; unfold InsPost at h; obtain ⟨g2, c2, rfl, k8, rfl, hw2, hg2⟩ := h)))
                haveI : NeB (w.heap.size + 1 + 1) g2 := ⟨by have := hg2.h; omega⟩
                refine bodyPost_ret (v := _) (by first | (simp [results, Try.results9, go_sem]; done) | (simp [results, Try.results9, go_sem]; rfl)) rfl ?_
                rw [HR.out, HL.out]
                refine trPostN_ok (insL_len l _ x (by omega)) (by rfl) ?_ (by infer_instance) ⟨Nat.le_trans (by have := (inferInstance : LeB w.heap.size k.v.heap.size).h; exact this) hg2.h⟩
                (refine Ok.toEx ?_; (repeat (first | (with_reducible exact Ok.rf _) | (with_reducible refine Ok.alloc ?_ _) | (with_reducible refine Ok.ex ?_ _) | (with_reducible refine Ok.drew ?_) | (with_reducible refine Ok.setCellI ?_ _ _ _) | (with_reducible refine Ok.exb ?_ _))))
          · have hpe : q = l.length := by omega
            have HL : Hid (stA l x = insL l q x) := hid (by rw [HEnd.out hpe, hpe])
            have hz2 : ¬ (q : Int) < (l.length : Int) := by omega
            have g1 : decide ((q : Int) < (l.length : Int)) = false := by simp; omega
            clear hpe
            go_wp2_with (fail)
            (refine wp_region_ex (by kernel_rfl) (by kernel_rfl) ?_; (repeat (go_big_quiet_step (fail))); refine wpQuiet_nil ?_; rintro _ ⟨k2, rfl⟩)
            go_wp2_with (fail)
            (refine wp_region_ex (by kernel_rfl) (by kernel_rfl) ?_; (repeat (go_big_quiet_step (fail))); refine wpQuiet_nil ?_; rintro _ ⟨k3, rfl⟩)
            by_cases hfl : l.length = 24
            · have hfi : ((l.length : Int) == 24) = true := by rw [hfl]; rfl
              have HR := hid (HFull.out (by rw [HL.out, insL_len l _ x (by omega)]; omega))
              clear hfl
              go_wp2
              (refine bodyPost_ret (v := _) (by first | (simp [results, Try.results9, go_sem]; done) | (simp [results, Try.results9, go_sem]; rfl)) rfl ?_; rw [HR.out]; refine trPost_err (by rfl) ?_; (refine Ok.toEx ?_; (repeat (first | (with_reducible exact Ok.rf _) | (with_reducible refine Ok.alloc ?_ _) | (with_reducible refine Ok.ex ?_ _) | (with_reducible refine Ok.drew ?_) | (with_reducible refine Ok.setCellI ?_ _ _ _) | (with_reducible refine Ok.exb ?_ _)))))
            · have hfi : ((l.length : Int) == 24) = false := by rw [beq_eq_false_iff_ne]; omega
              have HR := hid (HGo.out (by rw [HL.out, insL_len l _ x (by omega)]; omega))
              clear hfl
              go_wp2_with ((go_at_call 30; go_loud ((refine (insAt (W0 := k.v) (some ⟨g, 0, none⟩) c9 l.length q l x _ _ _ owR_h rfl (by omega) hn ?_ ?_).mono ?_); (· exact (heap_alloc_new _ _)); (· intro g' hg'; cases hg'; have h1 := (inferInstance : LtW g k3.v).h; omega); rintro e w' h; unfold InsPost at h; obtain ⟨g2, c2, rfl, k8, rfl, hw2, hg2⟩ := h)))
              haveI : NeB (w.heap.size + 1 + 1) g2 := ⟨by have := hg2.h; omega⟩
              refine bodyPost_ret (v := _) (by first | (simp [results, Try.results9, go_sem]; done) | (simp [results, Try.results9, go_sem]; rfl)) rfl ?_
              rw [HR.out, HL.out]
              refine trPostN_ok (insL_len l _ x (by omega)) (by rfl) ?_ (by infer_instance) ⟨Nat.le_trans (by have := (inferInstance : LeB w.heap.size k.v.heap.size).h; exact this) hg2.h⟩
              (refine Ok.toEx ?_; (repeat (first | (with_reducible exact Ok.rf _) | (with_reducible refine Ok.alloc ?_ _) | (with_reducible refine Ok.ex ?_ _) | (with_reducible refine Ok.drew ?_) | (with_reducible refine Ok.setCellI ?_ _ _ _) | (with_reducible refine Ok.exb ?_ _))))
end
end Go.Proofs.Ytebapdgajjimpaa
