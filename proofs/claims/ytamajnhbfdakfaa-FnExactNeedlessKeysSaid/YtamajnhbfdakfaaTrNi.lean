/-
  NeedlessKeys of the program, and its law. Conditions: those typed at each theorem.
-/
import Derived.Test.YtamajnhbfdakfaaTrNd
namespace Go.Proofs.Ytamajnhbfdakfaa
open Go.RowKit
section
set_option maxHeartbeats 3200000
set_option maxRecDepth 20000
theorem iNd_any (nm : ByteArray) (A : Option Addr) (c : Nat) (l : List Ky) (w : World) [hl : Rd 2 kC w A l] (hs : nm.size ≤ maxLen) (hn : l.length ≤ 1048576) :
    Calls Try.prog 48 #[.agg #[.string nm, .slice A l.length c]] w fun e w' => ∃ A' c', e = .returned (.tuple #[.slice A' (ndR nm l).length c', .int .i64 (ndE nm l)]) ∧ ∃ k : Ex w, w' = k.v ∧ Ow 1 iC k.v A' (ndR nm l) ∧ Fr w A' := by
  have HA := hid hl.kg
  cases hv : vT nm l
  · have HR := hid (ndR_no hv)
    go_enter Try.func48, Try.ntmps48
    go_wp2_with ((go_at_call 23; (with_reducible refine (iVT_any nm _ _ l _ hs hn).mono ?_); rw [hv]; rintro e w' ⟨rfl, k, rfl⟩))
    go_ret2
    rw [HR.out.1, HR.out.2]
    refine ⟨none, 0, by rfl, ex_and (fun W => Ow 1 iC W none ([] : List Int) ∧ Fr w none) (by (refine Ok.toEx ?_; (repeat (first | (with_reducible exact Ok.rf _) | (with_reducible refine Ok.alloc ?_ _) | (with_reducible refine Ok.ex ?_ _) | (with_reducible refine Ok.drew ?_) | (with_reducible refine Ok.setCellI ?_ _ _ _) | (with_reducible refine Ok.exb ?_ _))))) ⟨Ow.nil, inferInstance⟩⟩
  · have hk := (vT_of hv).2.vk
    obtain ⟨hk1, hk2⟩ := hk.n
    have HK := hid hk
    have HR := hid (ndR_yes hv)
    have HN : Hid (∀ q, 1 ≤ q → (q = 1 ∨ q + 1 ≤ l.length) → ¬ q + 1 < l.length → ndN l = q) := hid fun q h1 h2 h3 => by unfold ndN; split <;> omega
    go_enter Try.func48, Try.ntmps48
    go_wp2_with ((go_at_call 23; (with_reducible refine (iVT_any nm _ _ l _ hs hn).mono ?_); rw [hv]; rintro e w' ⟨rfl, k, rfl⟩))
    clear hv hk
    have hrow0 := hid (row_nil k.v k.v.heap.size 2 1 iC)
    go_loopw [4, 5] (fun v t wr => ∃ q : Nat, 1 ≤ q ∧ (q = 1 ∨ q + 1 ≤ l.length) ∧ t = .int .i64 q ∧ ∃ j : Ex k.v, wr = j.v ∧ j.v.ownsRow k.v.heap.size 2 1 v (ndF l q).length ((ndF l q).flatMap iC)) (fun _ t _ => l.length - (intOf t).toNat)
    case atStart => exact ⟨1, Nat.le_refl _, .inl rfl, rfl, Ex.rf _, rfl, by rw [ndF_one]; exact hrow0.out⟩
    case round =>
      (obtain ⟨qq, hq1, hq2, rfl, j0, rfl, hrow⟩ := hrel; have hln := ndF_len l qq; obtain ⟨A1, c1, rfl, -, -⟩ := own_of_row (w0 := k.v) (f := iC) (fun _ => rfl) hrow; haveI hro : OwR k.v.heap.size 2 1 (.slice A1 (ndF l qq).length c1) (ndF l qq).length ((ndF l qq).flatMap iC) j0.v := ⟨hrow⟩; clear hrow)
      by_cases hlt : qq + 1 < l.length
      · have hlt2 : (qq : Int) < (l.length : Int) - 1 := by omega
        (obtain ⟨b', o, rfl, hbw, hc'⟩ := HA.out (by omega); have hb'k : LtW b' k.v := inferInstance; obtain ⟨c0, c1'⟩ := hc' qq (by omega); clear hc'; have hvw := hid (HK.out.wo (i := qq) (by omega) (by omega)); have hwl := hid (woK_len (l := l) (i := qq) (by omega)); have HT := hid (HK.out.kg qq (by omega)).1)
        have hz1 : (0 : Int) ≤ (qq : Int) := by omega
        have hz2 : (qq : Int) < (l.length : Int) := by omega
        have hz3 : IntKind.i64.wrap ((qq : Int) + 1) = (qq : Int) + 1 := IntWalk.i64_in _ (by omega)
        by_cases hd : vAt (woK l qq) (kyG l qq).t = (kyG l qq).v
        · have HU := hid (ndF_on ⟨hq1, hd⟩)
          have hdb : (vAt (woK l qq) (kyG l qq).t == (kyG l qq).v) = true := by rw [beq_iff_eq]; exact hd
          clear hd
          (generalize hV : vAt (woK l qq) (kyG l qq).t = V at *; have HV := hid hV; generalize hx : kyG l qq = x at *; have HX := hid hx; clear hV hx)
          go_wp2_with (fail)
          go_region_held3 (fun W => W.cell? ⟨w.heap.size, 0, none⟩ = some (.string nm) ∧ W.cell? ⟨w.heap.size, 1, none⟩ = some (.slice (some ⟨b', o, none⟩) l.length c) ∧ W.cell? ⟨b', o + qq * 2, none⟩ = some (.int .i64 x.t) ∧ W.cell? ⟨b', o + qq * 2 + 1, none⟩ = some (.int .i64 x.v)) ((refine ⟨?_, ?_, ?_, ?_⟩ <;> simp [go_sem, *])) ((first | (go_at_call 79; (with_reducible refine (clone_any _ _ l _ ?_ ?_).mono ?_); (· omega); (· omega); rintro e w' ⟨g, c9, rfl, hcc, k9, rfl, hw9, hg9⟩) | (go_at_call 87; (with_reducible refine (del_any g c9 l.length qq l _ hg9 hw9 ?_ ?_ ?_ ?_).mono ?_); (· rfl); (· omega); (· exact hcc); (· omega); rintro e w' ⟨rfl, k7, rfl, hw7, -⟩; have hw8 : Wr 2 kC k7.v g (woK l qq) := hw7; clear hw7) | (go_at_call 75; (with_reducible refine (valN_any _ _ _ (woK l qq) _ _ ?_ hwl.out hvw.out HT.out HV.out).mono ?_); (· infer_instance); rintro e w' ⟨rfl, k8, rfl⟩)))
          all_goals
            go_wp2_with ((at_builtin; go_loud (refine wpList_app iC _ rfl _ _ _ rfl k.v _ _ _ _ Try.underlying53 infoI64 rfl (by omega) (fun _ => ⟨rfl, by simp [iC, Value.oneCell']⟩) (.slice A1 (ndF l qq).length c1) (ndF l qq) rfl owR_h (qq : Int) _ _ rfl (cell1 _ _ _) (by omega) (by omega) ?_; intro v1 k1 h1')))
            go_roundw
            case rel => exact ⟨qq + 1, by omega, by omega, by go_num, k1, rfl, by rw [HU.out]; exact h1'⟩
            case measure => simp [intOf]; omega
        · have HU := hid (ndF_off (l := l) (k := qq) (fun h => hd h.2))
          have hdb : (vAt (woK l qq) (kyG l qq).t == (kyG l qq).v) = false := by rw [beq_eq_false_iff_ne]; exact hd
          clear hd
          (generalize hV : vAt (woK l qq) (kyG l qq).t = V at *; have HV := hid hV; generalize hx : kyG l qq = x at *; have HX := hid hx; clear hV hx)
          go_wp2_with (fail)
          go_region_held3 (fun W => W.cell? ⟨w.heap.size, 0, none⟩ = some (.string nm) ∧ W.cell? ⟨w.heap.size, 1, none⟩ = some (.slice (some ⟨b', o, none⟩) l.length c) ∧ W.cell? ⟨b', o + qq * 2, none⟩ = some (.int .i64 x.t) ∧ W.cell? ⟨b', o + qq * 2 + 1, none⟩ = some (.int .i64 x.v)) ((refine ⟨?_, ?_, ?_, ?_⟩ <;> simp [go_sem, *])) ((first | (go_at_call 79; (with_reducible refine (clone_any _ _ l _ ?_ ?_).mono ?_); (· omega); (· omega); rintro e w' ⟨g, c9, rfl, hcc, k9, rfl, hw9, hg9⟩) | (go_at_call 87; (with_reducible refine (del_any g c9 l.length qq l _ hg9 hw9 ?_ ?_ ?_ ?_).mono ?_); (· rfl); (· omega); (· exact hcc); (· omega); rintro e w' ⟨rfl, k7, rfl, hw7, -⟩; have hw8 : Wr 2 kC k7.v g (woK l qq) := hw7; clear hw7) | (go_at_call 75; (with_reducible refine (valN_any _ _ _ (woK l qq) _ _ ?_ hwl.out hvw.out HT.out HV.out).mono ?_); (· infer_instance); rintro e w' ⟨rfl, k8, rfl⟩)))
          all_goals
            go_wp2
            go_roundw
            case rel => exact ⟨qq + 1, by omega, by omega, by go_num, ex_and (fun W => W.ownsRow k.v.heap.size 2 1 _ (ndF l (qq + 1)).length ((ndF l (qq + 1)).flatMap iC)) (by (refine Ok.toEx ?_; (repeat (first | (with_reducible exact Ok.rf _) | (with_reducible refine Ok.alloc ?_ _) | (with_reducible refine Ok.ex ?_ _) | (with_reducible refine Ok.drew ?_) | (with_reducible refine Ok.setCellI ?_ _ _ _) | (with_reducible refine Ok.exb ?_ _))))) (by rw [HU.out]; exact owR_h)⟩
            case measure => simp [intOf]; omega
      · have HE := hid (HN.out qq hq1 hq2 hlt)
        have hlt2 : ¬ (qq : Int) < (l.length : Int) - 1 := by omega
        go_wp2
        go_ret2
        obtain ⟨A2, c2, he, hO2, hF2⟩ := own_of_row (w0 := k.v) (f := iC) (fun _ => rfl) hro.h
        cases he
        rw [HR.out.1, HR.out.2, HE.out]
        exact ⟨A1, ⟨c1, by rfl⟩, ex_and (fun W => Ow 1 iC W A1 (ndF l qq) ∧ Fr w A1) (by (refine Ok.toEx ?_; (repeat (first | (with_reducible exact Ok.rf _) | (with_reducible refine Ok.alloc ?_ _) | (with_reducible refine Ok.ex ?_ _) | (with_reducible refine Ok.drew ?_) | (with_reducible refine Ok.setCellI ?_ _ _ _) | (with_reducible refine Ok.exb ?_ _))))) ⟨hO2, hF2.mono⟩⟩
theorem lNeedlessKeys (nm : ByteArray) (A : Option Addr) (c : Nat) (l : List Ky) (w : World) (hl : Rd 2 kC w A l) (hs : nm.size ≤ 9223372036854775807) :
    Calls Try.prog 14 #[.agg #[.string nm, .slice A l.length c]] w fun e w' => e = .returned (.bool true) ∧ ∃ k : Ex w, w' = k.v := by
  have hs' : nm.size ≤ maxLen := hs
  have hlen := hl.len
  obtain ⟨rv, hrv⟩ : ∃ rv, ndR nm l = rv := ⟨_, rfl⟩
  obtain ⟨co, hco⟩ : ∃ co, ndE nm l = co := ⟨_, rfl⟩
  have hrl : rv.length ≤ 24 := by rw [← hrv]; exact ndR_len nm l
  have HV := hid hrv
  have HE := hid hco
  clear hrv hco
  go_enter Try.func14, Try.ntmps14
  go_wp2_with ((go_at_call 17; (with_reducible refine (szTrack_any nm _ _ l _ _ ?_ ?_ ?_).mono ?_); (· omega); (· omega); (· omega); rintro e w' ⟨m, rfl, ⟨m_1, m_2, m_3⟩, k, rfl⟩))
  · (go_ret; refine ⟨by first | rfl | (simp; done), ?_⟩; (refine Ok.toEx ?_; (repeat (first | (with_reducible exact Ok.rf _) | (with_reducible refine Ok.alloc ?_ _) | (with_reducible refine Ok.ex ?_ _) | (with_reducible refine Ok.drew ?_) | (with_reducible refine Ok.setCellI ?_ _ _ _) | (with_reducible refine Ok.exb ?_ _)))))
  obtain ⟨hm4, hm5⟩ := m_3 (by omega)
  clear m_3
  go_wp2_with ((go_at_call 19; (with_reducible refine (toTrack_any nm _ _ l _ ?_).mono ?_); (· omega); rintro e w' ⟨b1, rfl, k1, rfl, hw1, hb1⟩))
  go_wp2_with (go_at_call 47; (with_reducible refine (sNd_any nm _ _ l _ hs' hm4 (Nat.le_refl _)).mono ?_); rw [HV.out, HE.out]; rintro e w' ⟨Aw, cw, rfl, k2, rfl, how, hfw⟩)
  go_wp2_with ((go_at_call 19; (with_reducible refine (toTrack_any nm _ _ l _ ?_).mono ?_); (· omega); rintro e w' ⟨b2, rfl, k3, rfl, hw2, hb2⟩))
  go_wp2_with (go_at_call 48; (with_reducible refine (iNd_any nm _ _ l _ hs' hm4).mono ?_); rw [HV.out, HE.out]; rintro e w' ⟨Ag, cg, rfl, k4, rfl, hog, hfg⟩)
  go_wp2_with ((go_at_call 49; refine (eqI_any _ _ _ _ _ _).mono ?_; rintro e w' ⟨rfl, k5, rfl⟩))
  (go_region_held3 (fun W => W.cell? ⟨k3.v.heap.size, 0, none⟩ = some (.string nm) ∧ W.cell? ⟨k3.v.heap.size, 1, none⟩ = some (.slice (some ⟨b2, 0, none⟩) l.length l.length) ∧ W.cell? ⟨w.heap.size, 0, none⟩ = some (.string nm) ∧ W.cell? ⟨w.heap.size, 1, none⟩ = some (.slice A l.length c)) ((refine ⟨?_, ?_, ?_, ?_⟩ <;> simp [go_sem])) ((first | (go_at_call 19; (with_reducible refine (toTrack_any nm _ _ l _ ?_).mono ?_); (· omega); rintro e w' ⟨b3, rfl, k6, rfl, hwx, hbx⟩) | (go_at_call 21; (with_reducible refine (eqTrack_any nm _ _ _ _ l _).mono ?_); rintro e w' ⟨rfl, kx, rfl⟩))))
  haveI hg1 := hw2.lt
  haveI hg2 : LeB k2.v.heap.size b2 := ⟨by have := hb2.h; first | omega | (simp at this; omega)⟩
  have hg3 := hg1.h
  have hg6 := hg2.h
  have hg7 : ∀ b o, Ag = some ⟨b, o, none⟩ → k3.v.heap.size < b := fun b o e => by have := hfg.h _ _ _ e; first | omega | (simp at this; omega)
  have hbAg : ∀ b o o', Ag = some ⟨b, o, none⟩ → some (⟨b2, 0, none⟩ : Addr) ≠ some ⟨b, o', none⟩ := fun b o o' e => ne_blk (by have := hg7 b o e; omega)
  haveI hfg2 : Fr k2.v Ag := hfg.mono
  haveI how2 : Ow 2 kC kx.v (some ⟨b2, 0, none⟩) l := inferInstance
  have hinw : Inw kx.v (some ⟨b2, 0, none⟩) := fun b o m e => by cases e; exact (inferInstance : LtW b2 kx.v).h
  go_wp2_with (go_at_call 35; (with_reducible refine (markTrack_any nm k2.v _ _ l _ _ ?_ ?_ ?_ ?_).mono ?_); (· exact hinw); (· omega); (· omega); (· omega); rintro e w' ⟨rfl, k8, rfl, ho8, hb8⟩; haveI hog8 : Ow 1 iC k8.v Ag rv := Ow.but (inferInstanceAs (Ow 1 iC kx.v Ag rv)) hb8 hbAg)
  go_wp2_with ((go_at_call 49; refine (eqI_any _ _ _ _ _ _).mono ?_; rintro e w' ⟨rfl, k9, rfl⟩))
  go_wp2_with (go_at_call 50; refine (markI_any k2.v _ _ _ _ _ (by omega) (by omega) (by omega)).mono ?_; rintro e w' ⟨rfl, k10, rfl, ho10, hb10⟩)
  go_wp2_with ((go_at_call 51; refine (heldI_any _ _ _ _ _ (by omega) (by omega) (by omega)).mono ?_; rintro e w' ⟨rfl, k11, rfl⟩))
  go_wp2_with ((go_at_call 19; (with_reducible refine (toTrack_any nm _ _ l _ ?_).mono ?_); (· omega); rintro e w' ⟨b4, rfl, k12, rfl, hw12, hb12⟩))
  go_wp2_with (go_at_call 48; (with_reducible refine (iNd_any nm _ _ l _ hs' hm4).mono ?_); rw [HV.out, HE.out]; rintro e w' ⟨Ah, ch, rfl, k13, rfl, hoh, hfh⟩)
  go_wp2_with ((go_at_call 49; refine (eqI_any _ _ _ _ _ _).mono ?_; rintro e w' ⟨rfl, k14, rfl⟩))
  go_wp2_with ((go_at_call 51; refine (heldI_any _ _ _ _ _ (by omega) (by omega) (by omega)).mono ?_; rintro e w' ⟨rfl, k15, rfl⟩))
  all_goals (go_ret; refine ⟨by first | rfl | (simp; done), ?_⟩; (refine Ok.toEx ?_; (repeat (first | (with_reducible exact Ok.rf _) | (with_reducible refine Ok.alloc ?_ _) | (with_reducible refine Ok.ex ?_ _) | (with_reducible refine Ok.drew ?_) | (with_reducible refine Ok.setCellI ?_ _ _ _) | (with_reducible refine Ok.exb ?_ _)))))
end
end Go.Proofs.Ytamajnhbfdakfaa
