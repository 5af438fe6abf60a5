/-
  Contracts of FastestOf, and its law. Conditions: those typed at each theorem.
-/
import Derived.Test.YtpapphhbogngcaaTrG
import Derived.IntWalk
namespace Go.Proofs.Ytpapphhbogngcaa
open Go.RowKit
def aI (n : Int) : Int := if n < 0 then -n else n
theorem aI_bd {n M : Int} (h1 : -M ≤ n) (h2 : n ≤ M) : 0 ≤ aI n ∧ aI n ≤ M := by unfold aI; split <;> omega
def upI (a b : Int) : Int := (a + b - 1) / b
theorem upI_bd {a b M : Int} (h1 : 0 ≤ a) (h2 : a ≤ M) (h3 : 0 < b) : 0 ≤ upI a b ∧ upI a b ≤ M := by
  unfold upI
  refine ⟨Int.ediv_nonneg (by omega) (by omega), ?_⟩
  have h4 : (a + b - 1) / b < M + 1 := by
    refine Int.ediv_lt_of_lt_mul h3 ?_
    have : M * 1 ≤ M * b := Int.mul_le_mul_of_nonneg_left (by omega) (by omega)
    rw [Int.add_mul, Int.one_mul]
    omega
  omega
/-- how fast a track changes between two keys -/
def spd (a b : Ky) : Int := upI (aI (b.v - a.v) * 1000) (b.t - a.t)
def kyG (l : List Ky) (k : Nat) : Ky := l.getD k default
theorem kyG_at {l : List Ky} {k : Nat} (h : k < l.length) : kyG l k = l[k] := by simp [kyG, List.getD, h]
/-- where the first k parts change fastest, and how fast -/
def fsP (l : List Ky) : Nat → Int × Int
  | 0 => (0, -1)
  | k + 1 => if (fsP l k).2 < spd (kyG l k) (kyG l (k + 1)) then ((k : Int), spd (kyG l k) (kyG l (k + 1))) else fsP l k
theorem fsP_on {l : List Ky} {k : Nat} (h : (fsP l k).2 < spd (kyG l k) (kyG l (k + 1))) : fsP l (k + 1) = ((k : Int), spd (kyG l k) (kyG l (k + 1))) := by simp [fsP, h]
theorem fsP_off {l : List Ky} {k : Nat} (h : ¬ (fsP l k).2 < spd (kyG l k) (kyG l (k + 1))) : fsP l (k + 1) = fsP l k := by simp [fsP, h]
/-- what FastestOf answers -/
noncomputable def fsR (nm : ByteArray) (l : List Ky) : Int × Int × Int := if vT nm l = true then (if l.length = 1 then (0, 0, 6) else ((fsP l (l.length - 1)).1, (fsP l (l.length - 1)).2, 0)) else (0, 0, 1)
theorem Rd.kg {w : World} {A : Option Addr} {l : List Ky} (h : Rd 2 kC w A l) : 0 < l.length → ∃ b o, A = some ⟨b, o, none⟩ ∧ LtW b w ∧ ∀ (k : Nat) (_ : k < l.length), KyAt w b (o + k * 2) (kyG l k) := fun h0 => by
  obtain ⟨b, o, e, hb, hc⟩ := h.k h0
  exact ⟨b, o, e, hb, fun k hk => by rw [kyG_at hk]; exact hc k hk⟩
theorem VK.kg {l : List Ky} (h : VK l) (k : Nat) (hk : k < l.length) : (0 ≤ (kyG l k).t ∧ (kyG l k).t ≤ 7200000) ∧ (-1000000 ≤ (kyG l k).v ∧ (kyG l k).v ≤ 1000000) := by
  rw [kyG_at hk]; exact ⟨h.t k hk, h.v k hk⟩
theorem VK.kgr {l : List Ky} (h : VK l) (k : Nat) (hk : k + 1 < l.length) : (kyG l k).t < (kyG l (k + 1)).t := by
  rw [kyG_at hk, kyG_at (by omega)]; exact h.ris k (k + 1) hk (by omega)
theorem spd_bd {a b : Ky} (ha : -1000000 ≤ a.v ∧ a.v ≤ 1000000) (hb : -1000000 ≤ b.v ∧ b.v ≤ 1000000) (ht : a.t < b.t) : (0 ≤ aI (b.v - a.v) ∧ aI (b.v - a.v) ≤ 2000000) ∧ 0 ≤ spd a b ∧ spd a b ≤ 2000000000 := by
  have h1 := aI_bd (n := b.v - a.v) (M := 2000000) (by omega) (by omega)
  exact ⟨h1, upI_bd (by omega) (by omega) (by omega)⟩
section
set_option maxHeartbeats 3200000
set_option maxRecDepth 20000
theorem iAbs_any (n : Int) (w : World) (h : -4000000000 ≤ n ∧ n ≤ 4000000000) : Calls Try.prog 66 #[.int .i64 n] w fun e w' => e = .returned (.int .i64 (aI n)) ∧ w = w' := by
  by_cases hn : n < 0
  · have HS : aI n = -n := by unfold aI; rw [if_pos hn]
    rw [HS]; exact abs_neg n w hn (by omega)
  · have HS : aI n = n := by unfold aI; rw [if_neg hn]
    rw [HS]; exact abs_pos n w (by omega)
theorem iUp_any (a b : Int) (w : World) (h : (0 ≤ a ∧ a ≤ 4000000000000) ∧ 0 < b ∧ b ≤ 4000000000000) : Calls Try.prog 65 #[.int .i64 a, .int .i64 b] w fun e w' => e = .returned (.int .i64 (upI a b)) ∧ w = w' := by
  obtain ⟨⟨h1, h2⟩, h3, h4⟩ := h
  have HS : Hid (upI a b = (a + b - 1) / b) := hid rfl
  have h5 : 0 ≤ a + b - 1 := by omega
  go_enter Try.func65, Try.ntmps65
  go_wp2
  go_ret
  exact ⟨by rw [HS.out]; rfl, rfl⟩
theorem iFs_any (nm : ByteArray) (A : Option Addr) (c : Nat) (l : List Ky) (w : World) [hl : Rd 2 kC w A l] (hs : nm.size ≤ maxLen) (hn : l.length ≤ 1048576) :
    Calls Try.prog 30 #[.agg #[.string nm, .slice A l.length c]] w fun e w' => e = .returned (.tuple #[.int .i64 (fsR nm l).1, .int .i64 (fsR nm l).2.1, .int .i64 (fsR nm l).2.2]) ∧ ∃ k : Ex w, w' = k.v := by
  cases hv : vT nm l
  · have HR : Hid (fsR nm l = (0, 0, 1)) := hid (by unfold fsR; rw [hv]; rfl)
    go_enter Try.func30, Try.ntmps30
    go_wp2_with ((go_at_call 58; (with_reducible refine (iVT_any nm _ _ l _ hs hn).mono ?_); rw [hv]; rintro e w' ⟨rfl, k, rfl⟩))
    go_ret3
    refine ⟨by rw [HR.out]; rfl, ?_⟩
    (refine Ok.toEx ?_; (repeat (first | (with_reducible exact Ok.rf _) | (with_reducible refine Ok.alloc ?_ _) | (with_reducible refine Ok.ex ?_ _) | (with_reducible refine Ok.drew ?_) | (with_reducible refine Ok.setCellI ?_ _ _ _) | (with_reducible refine Ok.exb ?_ _))))
  · have hk := (vT_of hv).2.vk
    obtain ⟨hk1, hk2⟩ := hk.n
    have HK := hid hk
    clear hk
    by_cases h1 : l.length = 1
    · have HR : Hid (fsR nm l = (0, 0, 6)) := hid (by unfold fsR; rw [if_pos hv, if_pos h1])
      have h1b : ((l.length : Int) == 1) = true := by rw [beq_iff_eq]; omega
      clear h1
      go_enter Try.func30, Try.ntmps30
      go_wp2_with ((go_at_call 58; (with_reducible refine (iVT_any nm _ _ l _ hs hn).mono ?_); rw [hv]; rintro e w' ⟨rfl, k, rfl⟩))
      go_ret3
      refine ⟨by rw [HR.out]; rfl, ?_⟩
      (refine Ok.toEx ?_; (repeat (first | (with_reducible exact Ok.rf _) | (with_reducible refine Ok.alloc ?_ _) | (with_reducible refine Ok.ex ?_ _) | (with_reducible refine Ok.drew ?_) | (with_reducible refine Ok.setCellI ?_ _ _ _) | (with_reducible refine Ok.exb ?_ _))))
    · have HR : Hid (fsR nm l = ((fsP l (l.length - 1)).1, (fsP l (l.length - 1)).2, 0)) := hid (by unfold fsR; rw [if_pos hv, if_neg h1])
      have h1b : ((l.length : Int) == 1) = false := by rw [beq_eq_false_iff_ne]; omega
      have HA := hid hl.kg
      go_enter Try.func30, Try.ntmps30
      go_wp2_with ((go_at_call 58; (with_reducible refine (iVT_any nm _ _ l _ hs hn).mono ?_); rw [hv]; rintro e w' ⟨rfl, k, rfl⟩))
      go_loopw [5, 6, 22] (fun b m t wr => ∃ q : Nat, q + 1 ≤ l.length ∧ t = .int .i64 q ∧ b = .int .i64 (fsP l q).1 ∧ m = .int .i64 (fsP l q).2 ∧ ∃ j : Ex k.v, wr = j.v) (fun _ _ t _ => l.length + 1 - (intOf t).toNat)
      case atStart => exact ⟨0, by omega, rfl, rfl, rfl, Ex.rf _, rfl⟩
      case round =>
        obtain ⟨q, hq, rfl, rfl, rfl, j0, rfl⟩ := hrel
        by_cases hlt : q + 1 < l.length
        · have hltI : (q : Int) + 1 < l.length := by omega
          have hltI2 : (q : Int) < (l.length : Int) - 1 := by omega
          obtain ⟨b', o, rfl, hbw, hc⟩ := HA.out (by omega)
          obtain ⟨c0, c1⟩ := hc q (by omega)
          obtain ⟨d0, d1⟩ := hc (q + 1) hlt
          obtain ⟨⟨t1, t2⟩, ⟨v1, v2⟩⟩ := HK.out.kg q (by omega)
          obtain ⟨⟨t3, t4⟩, ⟨v3, v4⟩⟩ := HK.out.kg (q + 1) hlt
          have r1 := HK.out.kgr q hlt
          obtain ⟨⟨a1, a2⟩, a3, a4⟩ := spd_bd ⟨v1, v2⟩ ⟨v3, v4⟩ r1
          have HSP : Hid (spd (kyG l q) (kyG l (q + 1)) = upI (aI ((kyG l (q + 1)).v - (kyG l q).v) * 1000) ((kyG l (q + 1)).t - (kyG l q).t)) := hid rfl
          clear hc
          by_cases hg : (fsP l q).2 < spd (kyG l q) (kyG l (q + 1))
          · have HE := hid (fsP_on hg)
            have HX : (fsP l q).2 < upI (aI ((kyG l (q + 1)).v - (kyG l q).v) * 1000) ((kyG l (q + 1)).t - (kyG l q).t) := hg
            clear hg a3 a4
            generalize kyG l q = x at *
            generalize kyG l (q + 1) = y at *
            generalize fsP l q = F at *
            go_upto_region 9 with fail
            go_cut [8, 9] from 25 to 35 (fun u8 u9 wx => ∃ (p8 p9 : Nat) (j1 : Ex j0.v), wx = j1.v ∧ u8 = .pointer (some ⟨p8, 0, none⟩) ∧ u9 = .pointer (some ⟨p9, 0, none⟩) ∧ LtW p8 j1.v ∧ LtW p9 j1.v ∧ j1.v.cell? ⟨p8, 0, none⟩ = some (.int .i64 x.t) ∧ j1.v.cell? ⟨p8, 1, none⟩ = some (.int .i64 x.v) ∧ j1.v.cell? ⟨p9, 0, none⟩ = some (.int .i64 y.t) ∧ j1.v.cell? ⟨p9, 1, none⟩ = some (.int .i64 y.v))
            case first =>
              have hz0 : (0 : Int) ≤ (q : Int) := by omega
              have hz1 : (q : Int) < (l.length : Int) := by omega
              have hz2 : (0 : Int) ≤ (q : Int) + 1 := by omega
              have hz3 : IntKind.i64.wrap ((q : Int) + 1) = (q : Int) + 1 := IntWalk.i64_in _ (by omega)
              have hz4 : ((q : Int) + 1).toNat = q + 1 := by omega
              have hz5 : q < l.length := by omega
              go_region_held3 (fun W => W.cell? ⟨w.heap.size, 1, none⟩ = some (.slice (some ⟨b', o, none⟩) l.length c) ∧ W.cell? ⟨b', o + q * 2, none⟩ = some (.int .i64 x.t) ∧ W.cell? ⟨b', o + q * 2 + 1, none⟩ = some (.int .i64 x.v) ∧ W.cell? ⟨b', o + (q + 1) * 2, none⟩ = some (.int .i64 y.t) ∧ W.cell? ⟨b', o + (q + 1) * 2 + 1, none⟩ = some (.int .i64 y.v)) ((refine ⟨?_, ?_, ?_, ?_, ?_⟩ <;> simp [go_sem, c0, c1, d0, d1])) (fail)
              all_goals
                go_wp2_with fail
                go_meet
                exact ⟨_, _, ⟨_, ((((Below.refl _ _).alloc (Nat.le_refl _) _).alloc (by simp) _)).drew⟩, rfl, rfl, rfl, by infer_instance, by infer_instance, by simp [go_sem], by simp [go_sem], by simp [go_sem], by simp [go_sem]⟩
            case rest =>
              obtain ⟨p8, p9, j1, rfl, rfl, rfl, hp8, hp9, x0, x1, y0, y1⟩ := hcut
              go_wp2
              (refine wp_region_ex (by kernel_rfl) (by kernel_rfl) ?_; (repeat (go_big_quiet_step (((first | (go_at_call 66; exact calls_ex_same (iAbs_any _ _ ⟨by omega, by omega⟩)) | (go_at_call 65; exact calls_ex_same (iUp_any _ _ _ ⟨⟨by omega, by omega⟩, by omega, by omega⟩))))))); refine wpQuiet_nil ?_; rintro _ ⟨k, rfl⟩)
              go_wp2
              go_roundw
              case rel => refine ⟨q + 1, by omega, by go_num, by rw [HE.out], by rw [HE.out, HSP.out], ?_⟩; (refine Ok.toEx ?_; (repeat (first | (with_reducible exact Ok.rf _) | (with_reducible refine Ok.alloc ?_ _) | (with_reducible refine Ok.ex ?_ _) | (with_reducible refine Ok.drew ?_) | (with_reducible refine Ok.setCellI ?_ _ _ _) | (with_reducible refine Ok.exb ?_ _))))
              case measure => simp [intOf]; omega
          · have HE := hid (fsP_off hg)
            have HX : upI (aI ((kyG l (q + 1)).v - (kyG l q).v) * 1000) ((kyG l (q + 1)).t - (kyG l q).t) ≤ (fsP l q).2 := by
              have : spd (kyG l q) (kyG l (q + 1)) ≤ (fsP l q).2 := by omega
              exact this
            clear hg a3 a4
            generalize kyG l q = x at *
            generalize kyG l (q + 1) = y at *
            generalize fsP l q = F at *
            go_upto_region 9 with fail
            go_cut [8, 9] from 25 to 35 (fun u8 u9 wx => ∃ (p8 p9 : Nat) (j1 : Ex j0.v), wx = j1.v ∧ u8 = .pointer (some ⟨p8, 0, none⟩) ∧ u9 = .pointer (some ⟨p9, 0, none⟩) ∧ LtW p8 j1.v ∧ LtW p9 j1.v ∧ j1.v.cell? ⟨p8, 0, none⟩ = some (.int .i64 x.t) ∧ j1.v.cell? ⟨p8, 1, none⟩ = some (.int .i64 x.v) ∧ j1.v.cell? ⟨p9, 0, none⟩ = some (.int .i64 y.t) ∧ j1.v.cell? ⟨p9, 1, none⟩ = some (.int .i64 y.v))
            case first =>
              have hz0 : (0 : Int) ≤ (q : Int) := by omega
              have hz1 : (q : Int) < (l.length : Int) := by omega
              have hz2 : (0 : Int) ≤ (q : Int) + 1 := by omega
              have hz3 : IntKind.i64.wrap ((q : Int) + 1) = (q : Int) + 1 := IntWalk.i64_in _ (by omega)
              have hz4 : ((q : Int) + 1).toNat = q + 1 := by omega
              have hz5 : q < l.length := by omega
              go_region_held3 (fun W => W.cell? ⟨w.heap.size, 1, none⟩ = some (.slice (some ⟨b', o, none⟩) l.length c) ∧ W.cell? ⟨b', o + q * 2, none⟩ = some (.int .i64 x.t) ∧ W.cell? ⟨b', o + q * 2 + 1, none⟩ = some (.int .i64 x.v) ∧ W.cell? ⟨b', o + (q + 1) * 2, none⟩ = some (.int .i64 y.t) ∧ W.cell? ⟨b', o + (q + 1) * 2 + 1, none⟩ = some (.int .i64 y.v)) ((refine ⟨?_, ?_, ?_, ?_, ?_⟩ <;> simp [go_sem, c0, c1, d0, d1])) (fail)
              all_goals
                go_wp2_with fail
                go_meet
                exact ⟨_, _, ⟨_, ((((Below.refl _ _).alloc (Nat.le_refl _) _).alloc (by simp) _)).drew⟩, rfl, rfl, rfl, by infer_instance, by infer_instance, by simp [go_sem], by simp [go_sem], by simp [go_sem], by simp [go_sem]⟩
            case rest =>
              obtain ⟨p8, p9, j1, rfl, rfl, rfl, hp8, hp9, x0, x1, y0, y1⟩ := hcut
              go_wp2
              (refine wp_region_ex (by kernel_rfl) (by kernel_rfl) ?_; (repeat (go_big_quiet_step (((first | (go_at_call 66; exact calls_ex_same (iAbs_any _ _ ⟨by omega, by omega⟩)) | (go_at_call 65; exact calls_ex_same (iUp_any _ _ _ ⟨⟨by omega, by omega⟩, by omega, by omega⟩))))))); refine wpQuiet_nil ?_; rintro _ ⟨k, rfl⟩)
              go_wp2
              go_roundw
              case rel => refine ⟨q + 1, by omega, by go_num, by rw [HE.out], by rw [HE.out], ?_⟩; (refine Ok.toEx ?_; (repeat (first | (with_reducible exact Ok.rf _) | (with_reducible refine Ok.alloc ?_ _) | (with_reducible refine Ok.ex ?_ _) | (with_reducible refine Ok.drew ?_) | (with_reducible refine Ok.setCellI ?_ _ _ _) | (with_reducible refine Ok.exb ?_ _))))
              case measure => simp [intOf]; omega
        · have hq : l.length - 1 = q := by omega
          have hltI2 : (l.length : Int) - 1 ≤ (q : Int) := by omega
          rw [hq] at HR
          go_wp2
          go_ret3
          refine ⟨by rw [HR.out]; rfl, ?_⟩
          (refine Ok.toEx ?_; (repeat (first | (with_reducible exact Ok.rf _) | (with_reducible refine Ok.alloc ?_ _) | (with_reducible refine Ok.ex ?_ _) | (with_reducible refine Ok.drew ?_) | (with_reducible refine Ok.setCellI ?_ _ _ _) | (with_reducible refine Ok.exb ?_ _))))
end
end Go.Proofs.Ytpapphhbogngcaa
