/-
  CutTrack, both. Conditions: those typed at each theorem.
-/
import Derived.Test.YtpapphhbogngcaaTrNd
import Derived.Test.YtpapphhbogngcaaAppB
namespace Go.Proofs.Ytpapphhbogngcaa
open Go.RowKit
/-- the keys between two times, of the first k, with one ahead -/
def cutP (l : List Ky) (f u : Int) : Nat → List Ky
  | 0 => [⟨0, vAt l f⟩]
  | k + 1 => cutP l f u k ++ (if f < (kyG l k).t ∧ (kyG l k).t < u then [⟨(kyG l k).t - f, (kyG l k).v⟩] else [])
theorem cutP_on {l : List Ky} {f u : Int} {k : Nat} (h1 : f < (kyG l k).t) (h2 : (kyG l k).t < u) : cutP l f u (k + 1) = cutP l f u k ++ [⟨(kyG l k).t - f, (kyG l k).v⟩] := by simp [cutP, h1, h2]
theorem cutP_off {l : List Ky} {f u : Int} {k : Nat} (h : ¬ (f < (kyG l k).t ∧ (kyG l k).t < u)) : cutP l f u (k + 1) = cutP l f u k := by simp [cutP, h]
theorem cutP_len (l : List Ky) (f u : Int) : ∀ k, (cutP l f u k).length ≤ k + 1
  | 0 => by simp [cutP]
  | k + 1 => by
    have := cutP_len l f u k
    unfold cutP
    split <;> simp <;> omega
def cutA (l : List Ky) (f u : Int) : List Ky := cutP l f u l.length ++ [⟨u - f, vAt l u⟩]
theorem cutA_len (l : List Ky) (f u : Int) : 1 ≤ (cutA l f u).length ∧ (cutA l f u).length ≤ l.length + 2 := by
  have := cutP_len l f u l.length
  unfold cutA
  rw [List.length_append]
  exact ⟨by simp, by simp; omega⟩
def cutOk (f u : Int) : Prop := (0 ≤ f ∧ f ≤ 7200000) ∧ (0 ≤ u ∧ u ≤ 7200000) ∧ f < u
instance (f u : Int) : Decidable (cutOk f u) := by unfold cutOk; infer_instance
theorem cutOk_not {f u : Int} (h : ¬ cutOk f u) : (f < 0 ∨ 7200000 < f) ∨ ((0 ≤ f ∧ f ≤ 7200000) ∧ (u < 0 ∨ 7200000 < u)) ∨ ((0 ≤ f ∧ f ≤ 7200000) ∧ (0 ≤ u ∧ u ≤ 7200000) ∧ u ≤ f) := by unfold cutOk at h; omega
/-- what CutTrack answers -/
noncomputable def cutR (nm : ByteArray) (l : List Ky) (f u : Int) : TR3 := if vT nm l = true then (if cutOk f u then (if 24 < (cutA l f u).length then trErr 5 else ⟨nm, cutA l f u, 0⟩) else trErr 2) else trErr 1
theorem cutR_inv {nm : ByteArray} {l : List Ky} {f u : Int} (h : vT nm l = false) : cutR nm l f u = trErr 1 := by unfold cutR; rw [h]; rfl
theorem cutR_rng {nm : ByteArray} {l : List Ky} {f u : Int} (h : vT nm l = true) (hd : ¬ cutOk f u) : cutR nm l f u = trErr 2 := by unfold cutR; rw [if_pos h, if_neg hd]
theorem cutR_full {nm : ByteArray} {l : List Ky} {f u : Int} (h : vT nm l = true) (hd : cutOk f u) (hf : 24 < (cutA l f u).length) : cutR nm l f u = trErr 5 := by unfold cutR; rw [if_pos h, if_pos hd, if_pos hf]
theorem cutR_go {nm : ByteArray} {l : List Ky} {f u : Int} (h : vT nm l = true) (hd : cutOk f u) (hf : ¬ 24 < (cutA l f u).length) : cutR nm l f u = ⟨nm, cutA l f u, 0⟩ := by unfold cutR; rw [if_pos h, if_pos hd, if_neg hf]
theorem cutR_len (nm : ByteArray) (l : List Ky) (f u : Int) : (cutR nm l f u).l.length ≤ 24 := by
  unfold cutR
  split
  · split
    · split
      · simp [trErr]
      · rename_i h; show (cutA l f u).length ≤ 24; omega
    · simp [trErr]
  · simp [trErr]
theorem row_one (w : World) (e : TypeId) (x : Ky) : (w.alloc (.cells #[.int .i64 x.t, .int .i64 x.v] e)).ownsRow w.heap.size e 2 (.slice (some ⟨w.heap.size, 0, none⟩) 1 1) [x].length ([x].flatMap kC) :=
  ⟨by simp [kC], .inr ⟨w.heap.size, 1, #[.int .i64 x.t, .int .i64 x.v], rfl, Nat.le_refl _, heap_alloc_new w _, Nat.le_refl _, by simp [maxLen], rfl, by simp [kC]⟩⟩
section
set_option maxHeartbeats 3200000
set_option maxRecDepth 20000
theorem iCut_any (nm : ByteArray) (A : Option Addr) (c : Nat) (l : List Ky) (f u : Int) (w : World) [hl : Rd 2 kC w A l] (hs : nm.size ≤ maxLen) (hn : l.length ≤ 1048576) :
    Calls Try.prog 22 #[.agg #[.string nm, .slice A l.length c], .int .i64 f, .int .i64 u] w (TrPost (cutR nm l f u) w) := by
  cases hv : vT nm l
  · have HR := hid (cutR_inv (f := f) (u := u) hv)
    go_enter Try.func22, Try.ntmps22
    go_wp2_with ((go_at_call 58; (with_reducible refine (iVT_any nm _ _ l _ hs hn).mono ?_); rw [hv]; rintro e w' ⟨rfl, k, rfl⟩))
    (refine bodyPost_ret (v := _) (by first | (simp [results, Try.results22, go_sem]; done) | (simp [results, Try.results22, go_sem]; rfl)) rfl ?_; rw [HR.out]; refine trPost_err (by rfl) ?_; (refine Ok.toEx ?_; (repeat (first | (with_reducible exact Ok.rf _) | (with_reducible refine Ok.alloc ?_ _) | (with_reducible refine Ok.ex ?_ _) | (with_reducible refine Ok.drew ?_) | (with_reducible refine Ok.setCellI ?_ _ _ _) | (with_reducible refine Ok.exb ?_ _)))))
  · by_cases hd : cutOk f u
    rotate_left
    · have HR := hid (cutR_rng hv hd)
      rcases cutOk_not hd with h | ⟨h1, h⟩ | ⟨h1, h2, h⟩
      all_goals
        clear hd
        go_enter Try.func22, Try.ntmps22
        go_wp2_with (first | (go_at_call 58; (with_reducible refine (iVT_any nm _ _ l _ hs hn).mono ?_); rw [hv]; rintro e w' ⟨rfl, k, rfl⟩) | (go_at_call 43; first | (refine (wi_yes _ _ _ _ (by omega) (by omega)).mono ?_; rintro e w' ⟨rfl, rfl⟩) | (refine (wi_no _ _ _ _ (by omega)).mono ?_; rintro e w' ⟨rfl, rfl⟩)))
        (refine bodyPost_ret (v := _) (by first | (simp [results, Try.results22, go_sem]; done) | (simp [results, Try.results22, go_sem]; rfl)) rfl ?_; rw [HR.out]; refine trPost_err (by rfl) ?_; (refine Ok.toEx ?_; (repeat (first | (with_reducible exact Ok.rf _) | (with_reducible refine Ok.alloc ?_ _) | (with_reducible refine Ok.ex ?_ _) | (with_reducible refine Ok.drew ?_) | (with_reducible refine Ok.setCellI ?_ _ _ _) | (with_reducible refine Ok.exb ?_ _)))))
    · have hk := (vT_of hv).2.vk
      obtain ⟨hk1, hk2⟩ := hk.n
      have HK := hid hk
      have HA := hid hl.kg
      have HFull := hid (cutR_full (u := u) hv hd)
      have HGo := hid (cutR_go (u := u) hv hd)
      obtain ⟨⟨hf1, hf2⟩, ⟨hu1, hu2⟩, hfu⟩ := hd
      obtain ⟨V0, hV0⟩ : ∃ V0, vAt l f = V0 := ⟨_, rfl⟩
      obtain ⟨V1, hV1⟩ : ∃ V1, vAt l u = V1 := ⟨_, rfl⟩
      have H0 := hid hV0
      have H1 := hid hV1
      have HP0 : Hid (cutP l f u 0 = [⟨0, V0⟩]) := hid (by rw [← hV0]; rfl)
      have HA1 : Hid (cutP l f u l.length ++ [(⟨u - f, V1⟩ : Ky)] = cutA l f u) := hid (by rw [← hV1]; rfl)
      have hcl := (cutA_len l f u).1
      have hcl2 := (cutA_len l f u).2
      clear hV0 hV1 hk
      go_enter Try.func22, Try.ntmps22
      go_wp2_with (first | (go_at_call 58; (with_reducible refine (iVT_any nm _ _ l _ hs hn).mono ?_); rw [hv]; rintro e w' ⟨rfl, k, rfl⟩) | (go_at_call 43; first | (refine (wi_yes _ _ _ _ (by omega) (by omega)).mono ?_; rintro e w' ⟨rfl, rfl⟩) | (refine (wi_no _ _ _ _ (by omega)).mono ?_; rintro e w' ⟨rfl, rfl⟩)) | (go_at_call 59; (with_reducible refine (valN_any _ l.length _ l _ _ ?_ rfl HK.out ?_ (H0.out)).mono ?_); (· infer_instance); (· omega); rintro e w' ⟨rfl, k, rfl⟩))
      clear hv
      have hrow0 := hid (row_one k.v 63 ⟨0, V0⟩)
      go_loopw [8, 38] (fun v t wr => ∃ q : Nat, q ≤ l.length ∧ t = .int .i64 q ∧ ∃ j : Ex k.v, wr = j.v ∧ j.v.ownsRow k.v.heap.size 63 2 v (cutP l f u q).length ((cutP l f u q).flatMap kC)) (fun _ t _ => l.length - (intOf t).toNat)
      case atStart => exact ⟨0, Nat.zero_le _, rfl, ⟨_, (Below.refl _ _).alloc (Nat.le_refl _) _⟩, rfl, by rw [HP0.out]; exact hrow0.out⟩
      case round =>
        obtain ⟨qq, hq, rfl, j0, rfl, hrow⟩ := hrel
        have hln := cutP_len l f u qq
        obtain ⟨A1, c1, rfl, -, -⟩ := own_of_row (w0 := k.v) (f := kC) (fun _ => rfl) hrow
        haveI hro : OwR k.v.heap.size 63 2 (.slice A1 (cutP l f u qq).length c1) (cutP l f u qq).length ((cutP l f u qq).flatMap kC) j0.v := ⟨hrow⟩
        clear hrow
        by_cases hlt : qq < l.length
        · obtain ⟨b', o, rfl, hbw, hc'⟩ := HA.out (by omega)
          obtain ⟨c0, c1'⟩ := hc' qq hlt
          clear hc'
          obtain ⟨hx1, hx2⟩ := (HK.out.kg qq hlt).1
          by_cases h1 : f < (kyG l qq).t
          · by_cases h2 : (kyG l qq).t < u
            · have HU := hid (cutP_on h1 h2)
              generalize kyG l qq = x at *
              go_wp2_with ((at_builtin; go_loud (refine wpList_app kC _ rfl _ _ _ rfl k.v _ _ _ _ Try.underlying54 infoKey rfl (by omega) (fun _ => ⟨rfl, by simp [kC, Value.oneCell']⟩) (.slice A1 (cutP l f u qq).length c1) (cutP l f u qq) rfl owR_h ((⟨x.t - f, x.v⟩ : Ky)) _ _ rfl (cellsB (by simp)) (by omega) (by omega) ?_; intro v1 k1 h1'; obtain ⟨A2, c2, rfl, hO2, hF2⟩ := own_of_row (w0 := k.v) (f := kC) (fun _ => rfl) h1')))
              go_roundw
              case rel => exact ⟨qq + 1, by omega, by go_num, k1, rfl, by rw [HU.out]; simp only [List.length_append, List.length_singleton] at h1' ⊢; exact h1'⟩
              case measure => simp [intOf]; omega
            · have HU := hid (cutP_off (f := f) (u := u) (l := l) (k := qq) (fun h => h2 h.2))
              generalize kyG l qq = x at *
              go_wp2
              go_roundw
              case rel => exact ⟨qq + 1, by omega, by go_num, ex_and (fun W => W.ownsRow k.v.heap.size 63 2 _ (cutP l f u (qq + 1)).length ((cutP l f u (qq + 1)).flatMap kC)) (by (refine Ok.toEx ?_; (repeat (first | (with_reducible exact Ok.rf _) | (with_reducible refine Ok.alloc ?_ _) | (with_reducible refine Ok.ex ?_ _) | (with_reducible refine Ok.drew ?_) | (with_reducible refine Ok.setCellI ?_ _ _ _) | (with_reducible refine Ok.exb ?_ _))))) (by rw [HU.out]; exact owR_h)⟩
              case measure => simp [intOf]; omega
          · have HU := hid (cutP_off (f := f) (u := u) (l := l) (k := qq) (fun h => h1 h.1))
            generalize kyG l qq = x at *
            go_wp2
            go_roundw
            case rel => exact ⟨qq + 1, by omega, by go_num, ex_and (fun W => W.ownsRow k.v.heap.size 63 2 _ (cutP l f u (qq + 1)).length ((cutP l f u (qq + 1)).flatMap kC)) (by (refine Ok.toEx ?_; (repeat (first | (with_reducible exact Ok.rf _) | (with_reducible refine Ok.alloc ?_ _) | (with_reducible refine Ok.ex ?_ _) | (with_reducible refine Ok.drew ?_) | (with_reducible refine Ok.setCellI ?_ _ _ _) | (with_reducible refine Ok.exb ?_ _))))) (by rw [HU.out]; exact owR_h)⟩
            case measure => simp [intOf]; omega
        · obtain rfl : qq = l.length := by omega
          by_cases hfl : 24 < (cutA l f u).length
          · have HR := hid (HFull.out hfl)
            have hfi : (24 : Int) < ((cutA l f u).length : Int) := by omega
            go_wp2_with (first | (go_at_call 59; (with_reducible refine (valN_any _ l.length _ l _ _ ?_ rfl HK.out ?_ (H1.out)).mono ?_); (· infer_instance); (· omega); rintro e w' ⟨rfl, k3, rfl⟩) | ((at_builtin; go_loud (refine wpList_app kC _ rfl _ _ _ rfl k.v _ _ _ _ Try.underlying54 infoKey rfl (by omega) (fun _ => ⟨rfl, by simp [kC, Value.oneCell']⟩) (.slice A1 (cutP l f u l.length).length c1) (cutP l f u l.length) rfl owR_h ((⟨u - f, V1⟩ : Ky)) _ _ rfl (cellsB (by simp)) (by omega) (by omega) ?_; intro v1 k1 h1'; obtain ⟨A2, c2, rfl, hO2, hF2⟩ := own_of_row (w0 := k.v) (f := kC) (fun _ => rfl) h1')); rw [HA1.out] at *))
            (refine bodyPost_ret (v := _) (by first | (simp [results, Try.results22, go_sem]; done) | (simp [results, Try.results22, go_sem]; rfl)) rfl ?_; rw [HR.out]; refine trPost_err (by rfl) ?_; (refine Ok.toEx ?_; (repeat (first | (with_reducible exact Ok.rf _) | (with_reducible refine Ok.alloc ?_ _) | (with_reducible refine Ok.ex ?_ _) | (with_reducible refine Ok.drew ?_) | (with_reducible refine Ok.setCellI ?_ _ _ _) | (with_reducible refine Ok.exb ?_ _)))))
          · have HR := hid (HGo.out hfl)
            have hfi : ¬ (24 : Int) < ((cutA l f u).length : Int) := by omega
            go_wp2_with (first | (go_at_call 59; (with_reducible refine (valN_any _ l.length _ l _ _ ?_ rfl HK.out ?_ (H1.out)).mono ?_); (· infer_instance); (· omega); rintro e w' ⟨rfl, k3, rfl⟩) | ((at_builtin; go_loud (refine wpList_app kC _ rfl _ _ _ rfl k.v _ _ _ _ Try.underlying54 infoKey rfl (by omega) (fun _ => ⟨rfl, by simp [kC, Value.oneCell']⟩) (.slice A1 (cutP l f u l.length).length c1) (cutP l f u l.length) rfl owR_h ((⟨u - f, V1⟩ : Ky)) _ _ rfl (cellsB (by simp)) (by omega) (by omega) ?_; intro v1 k1 h1'; obtain ⟨A2, c2, rfl, hO2, hF2⟩ := own_of_row (w0 := k.v) (f := kC) (fun _ => rfl) h1')); rw [HA1.out] at *))
            obtain ⟨g, rfl, hw9⟩ := hO2.own (by omega)
            have hg := hF2.h _ _ _ rfl
            have hkw := (inferInstance : LtW (w.heap.size + 1) k.v).h
            haveI : NeB (w.heap.size + 1) g := ⟨by omega⟩
            refine bodyPost_ret (v := _) (by first | (simp [results, Try.results22, go_sem]; done) | (simp [results, Try.results22, go_sem]; rfl)) rfl ?_
            rw [HR.out]
            refine trPostN_ok rfl (by rfl) ?_ (by infer_instance) ⟨by omega⟩
            (refine Ok.toEx ?_; (repeat (first | (with_reducible exact Ok.rf _) | (with_reducible refine Ok.alloc ?_ _) | (with_reducible refine Ok.ex ?_ _) | (with_reducible refine Ok.drew ?_) | (with_reducible refine Ok.setCellI ?_ _ _ _) | (with_reducible refine Ok.exb ?_ _))))
end
end Go.Proofs.Ytpapphhbogngcaa
