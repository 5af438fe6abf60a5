/-
  AddCue and MoveCue of the program. Conditions: those typed at each theorem.
-/
import Derived.Test.YtdhflckombkimaaGreatDoorJ29
import Derived.Test.YtdhflckombkimaaGreatDoorJ18
import Derived.Test.YtdhflckombkimaaGreatDoorJ25
namespace Go.Proofs.YtdhflckombkimaaGreatDoor
open Go.RowKit
section
set_option maxHeartbeats 3200000
set_option maxRecDepth 20000
theorem iAddCueC_any (A : Option Addr) (c : Nat) (l : List Cu) (x : Cu) (w : World) [hk : COks l] [hl : Rd 6 cC w A l] [hp : PlA A c] (hcap : l.length ≤ c) (hn : l.length ≤ 1048576) (hs1 : x.id.size ≤ maxLen) (hs2 : x.tg.size ≤ maxLen) {rv : List Cu} {re : Int} (hrv : adV l x = rv) (hre : adE l x = re) :
    Calls Tryz.prog 8 #[.slice A l.length c, .agg #[.string x.id, .int .i64 x.t, .int .i64 x.ln, .string x.tg, .int .i64 x.act, .int .i64 x.v]] w fun e w' => ∃ A' c', e = .returned (.tuple #[.slice A' rv.length c', .int .i64 re]) ∧ ∃ k : Ex w, w' = k.v ∧ Ow 6 cC k.v A' rv ∧ Fr w A' ∧ rv.length ≤ c' := by
  subst hrv; subst hre
  have hlen := hl.len
  cases hv : vCs l
  · have HR := hid (ad_inv (x := x) (.inl hv))
    have HV := hid hv
    clear hv
    go_enter Tryz.func8, Tryz.ntmps8
    go_wp2_with ((go_at_call 21; (with_reducible refine (iCs_any _ _ l _ ?_ ?_ (HV.out)).mono ?_); (· omega); (· omega); rintro e w' ⟨rfl, k, rfl⟩))
    (go_ret2; rw [HR.out.1, HR.out.2]; exact ⟨none, 0, by rfl, ex_and (fun W => Ow 6 cC W none ([] : List Cu) ∧ Fr w none ∧ ([] : List Cu).length ≤ 0) (by (refine Ok.toEx ?_; (repeat (first | (with_reducible exact Ok.rf _) | (with_reducible refine Ok.alloc ?_ _) | (with_reducible refine Ok.ex ?_ _) | (with_reducible refine Ok.drew ?_) | (with_reducible refine Ok.setCellI ?_ _ _ _) | (with_reducible refine Ok.exb ?_ _))))) ⟨Ow.nil, inferInstance, Nat.le_refl _⟩⟩)
  · have HV := hid hv
    cases hx : vC x
    · have HR := hid (ad_inv (l := l) (.inr hx))
      have HX := hid hx
      clear hv hx
      go_enter Tryz.func8, Tryz.ntmps8
      go_wp2_with (first | (go_at_call 21; (with_reducible refine (iCs_any _ _ l _ ?_ ?_ (HV.out)).mono ?_); (· omega); (· omega); rintro e w' ⟨rfl, k, rfl⟩) | (go_at_call 22; (with_reducible refine (iVC_any x _ hs1 hs2 (HX.out)).mono ?_); rintro e w' ⟨rfl, k2, rfl⟩))
      (go_ret2; rw [HR.out.1, HR.out.2]; exact ⟨none, 0, by rfl, ex_and (fun W => Ow 6 cC W none ([] : List Cu) ∧ Fr w none ∧ ([] : List Cu).length ≤ 0) (by (refine Ok.toEx ?_; (repeat (first | (with_reducible exact Ok.rf _) | (with_reducible refine Ok.alloc ?_ _) | (with_reducible refine Ok.ex ?_ _) | (with_reducible refine Ok.drew ?_) | (with_reducible refine Ok.setCellI ?_ _ _ _) | (with_reducible refine Ok.exb ?_ _))))) ⟨Ow.nil, inferInstance, Nat.le_refl _⟩⟩)
    · have HX := hid hx
      rcases cI_part l x.id with ⟨q, hq, he, hb⟩ | hb
      · have HM := hid (cII_hit hq he hb)
        have HR := hid (ad_hit hv hx hq he hb)
        clear hv hx he hb
        go_enter Tryz.func8, Tryz.ntmps8
        go_wp2_with (first | (go_at_call 21; (with_reducible refine (iCs_any _ _ l _ ?_ ?_ (HV.out)).mono ?_); (· omega); (· omega); rintro e w' ⟨rfl, k, rfl⟩) | (go_at_call 22; (with_reducible refine (iVC_any x _ hs1 hs2 (HX.out)).mono ?_); rintro e w' ⟨rfl, k2, rfl⟩) | (go_at_call 23; go_loud ((with_reducible refine (cueIx_any _ l.length _ l _ _ ?_ rfl (HM.out)).mono ?_); (· infer_instance); rintro e w' ⟨rfl, k3, rfl⟩)))
        (go_ret2; rw [HR.out.1, HR.out.2]; exact ⟨none, 0, by rfl, ex_and (fun W => Ow 6 cC W none ([] : List Cu) ∧ Fr w none ∧ ([] : List Cu).length ≤ 0) (by (refine Ok.toEx ?_; (repeat (first | (with_reducible exact Ok.rf _) | (with_reducible refine Ok.alloc ?_ _) | (with_reducible refine Ok.ex ?_ _) | (with_reducible refine Ok.drew ?_) | (with_reducible refine Ok.setCellI ?_ _ _ _) | (with_reducible refine Ok.exb ?_ _))))) ⟨Ow.nil, inferInstance, Nat.le_refl _⟩⟩)
      · have HM := hid (cII_miss hb)
        by_cases hf : l.length = 32
        · have HR := hid (ad_full hv hx hb hf)
          have hfi : ((l.length : Int) == 32) = true := by rw [hf]; rfl
          clear hv hx hb hf
          go_enter Tryz.func8, Tryz.ntmps8
          go_wp2_with (first | (go_at_call 21; (with_reducible refine (iCs_any _ _ l _ ?_ ?_ (HV.out)).mono ?_); (· omega); (· omega); rintro e w' ⟨rfl, k, rfl⟩) | (go_at_call 22; (with_reducible refine (iVC_any x _ hs1 hs2 (HX.out)).mono ?_); rintro e w' ⟨rfl, k2, rfl⟩) | (go_at_call 23; go_loud ((with_reducible refine (cueIx_any _ l.length _ l _ _ ?_ rfl (HM.out)).mono ?_); (· infer_instance); rintro e w' ⟨rfl, k3, rfl⟩)))
          (go_ret2; rw [HR.out.1, HR.out.2]; exact ⟨none, 0, by rfl, ex_and (fun W => Ow 6 cC W none ([] : List Cu) ∧ Fr w none ∧ ([] : List Cu).length ≤ 0) (by (refine Ok.toEx ?_; (repeat (first | (with_reducible exact Ok.rf _) | (with_reducible refine Ok.alloc ?_ _) | (with_reducible refine Ok.ex ?_ _) | (with_reducible refine Ok.drew ?_) | (with_reducible refine Ok.setCellI ?_ _ _ _) | (with_reducible refine Ok.exb ?_ _))))) ⟨Ow.nil, inferInstance, Nat.le_refl _⟩⟩)
        · have HR := hid (ad_go hv hx hb hf)
          have HPL := hid (ins_put (rise_of hv) hb)
          have hfi : ((l.length : Int) == 32) = false := by have : ¬ (l.length : Int) = 32 := by omega
                                                            simpa using this
          clear hv hx hb hf
          go_enter Tryz.func8, Tryz.ntmps8
          go_wp2_with (first | (go_at_call 21; (with_reducible refine (iCs_any _ _ l _ ?_ ?_ (HV.out)).mono ?_); (· omega); (· omega); rintro e w' ⟨rfl, k, rfl⟩) | (go_at_call 22; (with_reducible refine (iVC_any x _ hs1 hs2 (HX.out)).mono ?_); rintro e w' ⟨rfl, k2, rfl⟩) | (go_at_call 23; go_loud ((with_reducible refine (cueIx_any _ l.length _ l _ _ ?_ rfl (HM.out)).mono ?_); (· infer_instance); rintro e w' ⟨rfl, k3, rfl⟩)))
          go_region_held3 (fun W => W.cell? ⟨w.heap.size, 0, none⟩ = some (.string x.id) ∧ W.cell? ⟨w.heap.size, 1, none⟩ = some (.int .i64 x.t) ∧ W.cell? ⟨w.heap.size, 2, none⟩ = some (.int .i64 x.ln) ∧ W.cell? ⟨w.heap.size, 3, none⟩ = some (.string x.tg) ∧ W.cell? ⟨w.heap.size, 4, none⟩ = some (.int .i64 x.act) ∧ W.cell? ⟨w.heap.size, 5, none⟩ = some (.int .i64 x.v)) ((refine ⟨?_, ?_, ?_, ?_, ?_, ?_⟩ <;> simp [go_sem])) ((first | (go_at_call 25; go_loud ((with_reducible refine (clone_own _ _ l _ ?_).mono ?_); (· exact hn); rintro e w' ⟨A9, c9, rfl, k9, rfl, hO9⟩)) | (go_at_call 24; go_loud ((refine (place_any A9 c9 _ l x _ hO9 rfl hn).mono ?_); rintro e w' h; unfold InsPost at h; obtain ⟨g, cg, rfl, k8, rfl, hw8, hg8, hcg⟩ := h))))
          all_goals
            go_wp2
            go_ret2
            rw [HR.out.1, HR.out.2]
            rw [HPL.out] at hw8
            refine ⟨some ⟨g, 0, none⟩, cg, by rw [putL_len]; rfl, ex_and (fun W => Ow 6 cC W (some ⟨g, 0, none⟩) (putL l x) ∧ Fr w (some ⟨g, 0, none⟩) ∧ (putL l x).length ≤ cg) (by (refine Ok.toEx ?_; (repeat (first | (with_reducible exact Ok.rf _) | (with_reducible refine Ok.alloc ?_ _) | (with_reducible refine Ok.ex ?_ _) | (with_reducible refine Ok.drew ?_) | (with_reducible refine Ok.setCellI ?_ _ _ _) | (with_reducible refine Ok.exb ?_ _))))) ⟨inferInstance, ?_, by rw [putL_len]; exact hcg.out⟩⟩
            exact ⟨fun b o m h => by cases h; exact Nat.le_trans (by first | exact (inferInstance : LeB w.heap.size k3.v.heap.size).h | exact (inferInstance : LeB w.heap.size k3.v.drew.heap.size).h) hg8.h⟩
theorem iAddCue_any (A : Option Addr) (c : Nat) (l : List Cu) (x : Cu) (w : World) [hk : COks l] [hl : Rd 6 cC w A l] [hp : PlA A c] (hcap : l.length ≤ c) (hn : l.length ≤ 1048576) (hs1 : x.id.size ≤ maxLen) (hs2 : x.tg.size ≤ maxLen) {rv : List Cu} {re : Int} (hrv : adV l x = rv) (hre : adE l x = re) :
    Calls Tryz.prog 8 #[.slice A l.length c, .agg #[.string x.id, .int .i64 x.t, .int .i64 x.ln, .string x.tg, .int .i64 x.act, .int .i64 x.v]] w fun e w' => ∃ A' c', e = .returned (.tuple #[.slice A' rv.length c', .int .i64 re]) ∧ ∃ k : Ex w, w' = k.v ∧ Ow 6 cC k.v A' rv ∧ Fr w A' := by
  refine (iAddCueC_any A c l x w hcap hn hs1 hs2 hrv hre).mono ?_
  rintro e w' ⟨A', c', rfl, k, rfl, h1, h2, -⟩
  exact ⟨A', c', rfl, k, rfl, h1, h2⟩
theorem iMoveCue_any (A : Option Addr) (c : Nat) (l : List Cu) (nm : ByteArray) (t : Int) (w : World) [hk : COks l] [hl : Rd 6 cC w A l] (hcap : l.length ≤ c) (hn : l.length ≤ 1048576) {R : List Cu × Int} (hR : mvR l nm t = R) :
    Calls Tryz.prog 10 #[.slice A l.length c, .string nm, .int .i64 t] w fun e w' => ∃ A' c', e = .returned (.tuple #[.slice A' R.1.length c', .int .i64 R.2]) ∧ ∃ k : Ex w, w' = k.v ∧ Ow 6 cC k.v A' R.1 ∧ Fr w A' := by
  subst hR
  have hlen := hl.len
  cases hv : vCs l
  · have HR := hid (mv_inv (nm := nm) (t := t) hv)
    have HV := hid hv
    clear hv
    go_enter Tryz.func10, Tryz.ntmps10
    go_wp2_with ((go_at_call 21; (with_reducible refine (iCs_any _ _ l _ ?_ ?_ (HV.out)).mono ?_); (· omega); (· omega); rintro e w' ⟨rfl, k, rfl⟩))
    (go_ret2; rw [HR.out]; exact ⟨none, 0, by rfl, ex_and (fun W => Ow 6 cC W none ([] : List Cu) ∧ Fr w none) (by (refine Ok.toEx ?_; (repeat (first | (with_reducible exact Ok.rf _) | (with_reducible refine Ok.alloc ?_ _) | (with_reducible refine Ok.ex ?_ _) | (with_reducible refine Ok.drew ?_) | (with_reducible refine Ok.setCellI ?_ _ _ _) | (with_reducible refine Ok.exb ?_ _))))) ⟨Ow.nil, inferInstance⟩⟩)
  · have HV := hid hv
    by_cases ht : 0 ≤ t ∧ t ≤ 7200000
    rotate_left
    · have HR := hid (mv_rng (nm := nm) hv ht)
      have ht' : t < 0 ∨ 7200000 < t := by omega
      clear hv ht
      go_enter Tryz.func10, Tryz.ntmps10
      go_wp2_with (first | (go_at_call 21; (with_reducible refine (iCs_any _ _ l _ ?_ ?_ (HV.out)).mono ?_); (· omega); (· omega); rintro e w' ⟨rfl, k, rfl⟩) | (go_at_call 27; first | (refine (wi_yes _ _ _ _ (by omega) (by omega)).mono ?_; rintro e w' ⟨rfl, rfl⟩) | (refine (wi_no _ _ _ _ (by omega)).mono ?_; rintro e w' ⟨rfl, rfl⟩)))
      (go_ret2; rw [HR.out]; exact ⟨none, 0, by rfl, ex_and (fun W => Ow 6 cC W none ([] : List Cu) ∧ Fr w none) (by (refine Ok.toEx ?_; (repeat (first | (with_reducible exact Ok.rf _) | (with_reducible refine Ok.alloc ?_ _) | (with_reducible refine Ok.ex ?_ _) | (with_reducible refine Ok.drew ?_) | (with_reducible refine Ok.setCellI ?_ _ _ _) | (with_reducible refine Ok.exb ?_ _))))) ⟨Ow.nil, inferInstance⟩⟩)
    · rcases cI_part l nm with ⟨q, hq, he, hb⟩ | hb
      · have HM := hid (cII_hit hq he hb)
        obtain ⟨b, o, rfl, hbw, hat⟩ := hl.cu (by omega)
        obtain ⟨e0, e1, e2, e3, e4, e5⟩ := hat q hq
        clear hat
        have hy1 : (cuG l q).id.size ≤ maxLen := by rw [cuG_at hq]; exact (hk.h _ (List.getElem_mem hq)).1
        have hy2 : (cuG l q).tg.size ≤ maxLen := by rw [cuG_at hq]; exact (hk.h _ (List.getElem_mem hq)).2.1
        have hz1 : (atT (cuG l q) t).id.size ≤ maxLen := hy1
        have hz2 : (atT (cuG l q) t).tg.size ≤ maxLen := hy2
        cases hx : vC (atT (cuG l q) t)
        · have HR := hid (mv_bad hv ht hq he hb hx)
          have HX := hid hx
          obtain ⟨ht1, ht2⟩ := ht
          clear hv hb he hx
          generalize cuG l q = x at *
          go_enter Tryz.func10, Tryz.ntmps10
          go_wp2_with (first | (go_at_call 21; (with_reducible refine (iCs_any _ _ l _ ?_ ?_ (HV.out)).mono ?_); (· omega); (· omega); rintro e w' ⟨rfl, k, rfl⟩) | (go_at_call 27; first | (refine (wi_yes _ _ _ _ (by omega) (by omega)).mono ?_; rintro e w' ⟨rfl, rfl⟩) | (refine (wi_no _ _ _ _ (by omega)).mono ?_; rintro e w' ⟨rfl, rfl⟩)) | (go_at_call 23; go_loud ((with_reducible refine (cueIx_any _ l.length _ l _ _ ?_ rfl (HM.out)).mono ?_); (· infer_instance); rintro e w' ⟨rfl, k2, rfl⟩)) | (go_at_call 22; go_loud ((with_reducible refine (iVC_any (atT x t) _ hz1 hz2 (HX.out)).mono ?_); rintro e w' ⟨rfl, k4, rfl⟩)))
          (go_ret2; rw [HR.out]; exact ⟨none, 0, by rfl, ex_and (fun W => Ow 6 cC W none ([] : List Cu) ∧ Fr w none) (by (refine Ok.toEx ?_; (repeat (first | (with_reducible exact Ok.rf _) | (with_reducible refine Ok.alloc ?_ _) | (with_reducible refine Ok.ex ?_ _) | (with_reducible refine Ok.drew ?_) | (with_reducible refine Ok.setCellI ?_ _ _ _) | (with_reducible refine Ok.exb ?_ _))))) ⟨Ow.nil, inferInstance⟩⟩)
        · have HR := hid (mv_go hv ht hq he hb hx)
          have HX := hid hx
          have hwl := hid (woC_len hq)
          have HPL := hid (ins_put (rise_wo hq (rise_of hv)) (miss_wo hq hv (c := atT (cuG l q) t) rfl))
          obtain ⟨ht1, ht2⟩ := ht
          clear hv hb he hx
          generalize cuG l q = x at *
          go_enter Tryz.func10, Tryz.ntmps10
          go_wp2_with (first | (go_at_call 21; (with_reducible refine (iCs_any _ _ l _ ?_ ?_ (HV.out)).mono ?_); (· omega); (· omega); rintro e w' ⟨rfl, k, rfl⟩) | (go_at_call 27; first | (refine (wi_yes _ _ _ _ (by omega) (by omega)).mono ?_; rintro e w' ⟨rfl, rfl⟩) | (refine (wi_no _ _ _ _ (by omega)).mono ?_; rintro e w' ⟨rfl, rfl⟩)) | (go_at_call 23; go_loud ((with_reducible refine (cueIx_any _ l.length _ l _ _ ?_ rfl (HM.out)).mono ?_); (· infer_instance); rintro e w' ⟨rfl, k2, rfl⟩)) | (go_at_call 22; go_loud ((with_reducible refine (iVC_any (atT x t) _ hz1 hz2 (HX.out)).mono ?_); rintro e w' ⟨rfl, k4, rfl⟩)))
          have hwl2 : (woC l q).length ≤ 1048576 := by rw [hwl.out]; omega
          have hq1 : IntKind.i64.wrap ((q : Int) + 1) = (q : Int) + 1 := IntWalk.i64_in _ (by omega)
          have hq2 : (0 : Int) ≤ (q : Int) + 1 := by omega
          go_region_held3 (fun W => W.cell? ⟨k2.v.heap.size, 0, none⟩ = some (.string x.id) ∧ W.cell? ⟨k2.v.heap.size, 1, none⟩ = some (.int .i64 t) ∧ W.cell? ⟨k2.v.heap.size, 2, none⟩ = some (.int .i64 x.ln) ∧ W.cell? ⟨k2.v.heap.size, 3, none⟩ = some (.string x.tg) ∧ W.cell? ⟨k2.v.heap.size, 4, none⟩ = some (.int .i64 x.act) ∧ W.cell? ⟨k2.v.heap.size, 5, none⟩ = some (.int .i64 x.v)) ((refine ⟨?_, ?_, ?_, ?_, ?_, ?_⟩ <;> simp [go_sem])) ((first | (go_at_call 25; go_loud ((with_reducible refine (clone_row _ _ l _ ?_ ?_).mono ?_); (· omega); (· exact hn); rintro e w' ⟨g0, c9, rfl, -, k9, rfl, hO9, -, -⟩)) | (go_at_call 26; go_loud ((refine (delK_any g0 c9 l.length q l _ hO9 rfl hq hn).mono ?_); rintro e w' ⟨rfl, k7, rfl, hO7⟩)) | (go_at_call 24; go_loud ((refine (place_any (some ⟨g0, 0, none⟩) c9 _ (woC l q) (atT x t) _ hO7 hwl.out hwl2).mono ?_); rintro e w' h; unfold InsPost at h; obtain ⟨g, cg, rfl, k8, rfl, hw8, hg8, hcg⟩ := h))))
          all_goals
            go_wp2
            go_ret2
            rw [HR.out]
            rw [HPL.out] at hw8
            refine ⟨some ⟨g, 0, none⟩, cg, by show _ = Ending.returned (.tuple #[.slice _ (putL (woC l q) (atT x t)).length _, _]); rw [putL_len, hwl.out]; rfl, ex_and (fun W => Ow 6 cC W (some ⟨g, 0, none⟩) (putL (woC l q) (atT x t)) ∧ Fr w (some ⟨g, 0, none⟩)) (by (refine Ok.toEx ?_; (repeat (first | (with_reducible exact Ok.rf _) | (with_reducible refine Ok.alloc ?_ _) | (with_reducible refine Ok.ex ?_ _) | (with_reducible refine Ok.drew ?_) | (with_reducible refine Ok.setCellI ?_ _ _ _) | (with_reducible refine Ok.exb ?_ _))))) ⟨inferInstance, ?_⟩⟩
            exact ⟨fun b o m h => by cases h; exact Nat.le_trans (by first | exact (inferInstance : LeB w.heap.size k4.v.heap.size).h | exact (inferInstance : LeB w.heap.size k4.v.drew.heap.size).h) hg8.h⟩
      · have HM := hid (cII_miss hb)
        have HR := hid (mv_miss hv ht hb)
        obtain ⟨ht1, ht2⟩ := ht
        clear hv hb
        go_enter Tryz.func10, Tryz.ntmps10
        go_wp2_with (first | (go_at_call 21; (with_reducible refine (iCs_any _ _ l _ ?_ ?_ (HV.out)).mono ?_); (· omega); (· omega); rintro e w' ⟨rfl, k, rfl⟩) | (go_at_call 27; first | (refine (wi_yes _ _ _ _ (by omega) (by omega)).mono ?_; rintro e w' ⟨rfl, rfl⟩) | (refine (wi_no _ _ _ _ (by omega)).mono ?_; rintro e w' ⟨rfl, rfl⟩)) | (go_at_call 23; go_loud ((with_reducible refine (cueIx_any _ l.length _ l _ _ ?_ rfl (HM.out)).mono ?_); (· infer_instance); rintro e w' ⟨rfl, k2, rfl⟩)))
        (go_ret2; rw [HR.out]; exact ⟨none, 0, by rfl, ex_and (fun W => Ow 6 cC W none ([] : List Cu) ∧ Fr w none) (by (refine Ok.toEx ?_; (repeat (first | (with_reducible exact Ok.rf _) | (with_reducible refine Ok.alloc ?_ _) | (with_reducible refine Ok.ex ?_ _) | (with_reducible refine Ok.drew ?_) | (with_reducible refine Ok.setCellI ?_ _ _ _) | (with_reducible refine Ok.exb ?_ _))))) ⟨Ow.nil, inferInstance⟩⟩)
theorem iMoveCue2_any (A : Option Addr) (c : Nat) (l : List Cu) (nm : ByteArray) (t : Int) (w : World) [hk : COks l] [hl : Rd 6 cC w A l] (hcap : l.length ≤ c) (hn : l.length ≤ 1048576) {rv : List Cu} {re : Int} (hrv : (mvR l nm t).1 = rv) (hre : (mvR l nm t).2 = re) :
    Calls Tryz.prog 10 #[.slice A l.length c, .string nm, .int .i64 t] w fun e w' => ∃ A' c', e = .returned (.tuple #[.slice A' rv.length c', .int .i64 re]) ∧ ∃ k : Ex w, w' = k.v ∧ Ow 6 cC k.v A' rv ∧ Fr w A' := by
  subst hrv; subst hre
  exact iMoveCue_any A c l nm t w hcap hn rfl
end
theorem adV_len (l : List Cu) (x : Cu) : (adV l x).length ≤ 64 := by
  unfold adV
  split
  · rename_i h
    have := (vCs_of h.1).1
    split
    · simp
    · split
      · simp
      · rw [putL_len]; omega
  · simp
theorem mvV_len (l : List Cu) (nm : ByteArray) (t : Int) : (mvR l nm t).1.length ≤ 64 := by
  unfold mvR
  split
  · rename_i h
    have := (vCs_of h).1
    split
    · split
      · rename_i h2
        split
        · show (putL _ _).length ≤ 64
          rw [putL_len, woC_len h2]; omega
        · simp
      · simp
    · simp
  · simp
end Go.Proofs.YtdhflckombkimaaGreatDoor
