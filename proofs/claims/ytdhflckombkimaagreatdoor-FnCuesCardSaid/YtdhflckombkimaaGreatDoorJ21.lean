/-
  l13Without, with the capacity of what it hands back. Conditions: those typed at each theorem.
  InsertTime of the program. Conditions: those typed at each theorem.
-/
import Derived.Test.YtdhflckombkimaaGreatDoorJ16
import Derived.Test.YtdhflckombkimaaGreatDoorJ18
import Derived.Test.YtdhflckombkimaaGreatDoorJ8
namespace Go.Proofs.YtdhflckombkimaaGreatDoor
open Go.RowKit
section
set_option maxHeartbeats 3200000
set_option maxRecDepth 20000
end
end Go.Proofs.YtdhflckombkimaaGreatDoor
namespace Go.Proofs.YtdhflckombkimaaGreatDoor
open Go.RowKit
/-- a cue, later -/
def bump (f b : Int) (x : Cu) : Cu := if f ≤ x.t then { x with t := x.t + b } else x
theorem bump_on {f b : Int} {x : Cu} (h : f ≤ x.t) : bump f b x = { x with t := x.t + b } := if_pos h
theorem bump_off {f b : Int} {x : Cu} (h : ¬ f ≤ x.t) : bump f b x = x := if_neg h
def itK (l : List Cu) (f b : Int) : List Cu := l.map (bump f b)
theorem itK_len (l : List Cu) (f b : Int) : (itK l f b).length = l.length := by simp [itK]
/-- the first q moved -/
def itF (l : List Cu) (f b : Int) (q : Nat) : Nat → Cu := fun k => if k < q then bump f b (cuG l k) else cuG l k
theorem itF_zero (l : List Cu) (f b : Int) : itF l f b 0 = cuG l := by funext k; simp [itF]
theorem itF_at (l : List Cu) (f b : Int) (q : Nat) : itF l f b q q = cuG l q := by simp [itF]
theorem itF_end {l : List Cu} {f b : Int} {k : Nat} (hk : k < (itK l f b).length) : (itK l f b)[k] = itF l f b l.length k := by
  have hk' : k < l.length := by rwa [itK_len] at hk
  simp [itK, itF, hk', cuG_at hk']
/-- the time of cue q set -/
def updC (f : Nat → Cu) (q : Nat) (t : Int) : Nat → Cu := fun k => if k = q then { f q with t := t } else f k
theorem itF_on {l : List Cu} {f b : Int} {q : Nat} (h : f ≤ (cuG l q).t) : updC (itF l f b q) q ((cuG l q).t + b) = itF l f b (q + 1) := by
  funext k
  unfold updC itF
  by_cases hk : k = q
  · subst hk; simp [bump_on h]
  · by_cases h2 : k < q
    · simp [hk, h2, show k < q + 1 by omega]
    · simp [hk, h2, show ¬ k < q + 1 by omega]
theorem itF_off {l : List Cu} {f b : Int} {q : Nat} (h : ¬ f ≤ (cuG l q).t) : itF l f b q = itF l f b (q + 1) := by
  funext k
  unfold itF
  by_cases hk : k = q
  · subst hk; simp [bump_off h]
  · by_cases h2 : k < q
    · simp [h2, show k < q + 1 by omega]
    · simp [h2, show ¬ k < q + 1 by omega]
/-- block b is a row whose first n cues are as f tells -/
class KC (W : World) (b : Nat) (f : Nat → Cu) (n : Nat) : Prop where
  row : ∃ e N F, n * 6 ≤ N ∧ W.rowIs b e N F ∧ ∀ k, k < n → ∀ (i : Nat) (v : Value), (cC (f k))[i]? = some v → F (k * 6 + i) = v
namespace KC
variable {W : World} {b : Nat} {f : Nat → Cu} {n : Nat}
theorem lt (h : KC W b f n) : LtW b W := ⟨by obtain ⟨e, N, F, _, hr, _⟩ := h.row; exact hr.lt⟩
theorem block {W' : World} (h : KC W b f n) (he : W'.heap[b]? = W.heap[b]?) : KC W' b f n := ⟨by obtain ⟨e, N, F, hN, hr, hc⟩ := h.row; exact ⟨e, N, F, hN, hr.of_block he, hc⟩⟩
instance (priority := 900) ex [h : KC W b f n] (k : Ex W) : KC k.v b f n := h.block (k.block h.lt.h)
instance (priority := 900) alloc [h : KC W b f n] (o : Obj) : KC (W.alloc o) b f n := h.block (Below.heap_alloc _ _ _ h.lt.h)
instance (priority := 900) drew [h : KC W b f n] : KC W.drew b f n := ⟨h.row⟩
theorem c1 (h : KC W b f n) {k : Nat} (hk : k < n) : W.cell? ⟨b, k * 6 + 1, none⟩ = some (.int .i64 (f k).t) ∧ W.frozen? ⟨b, k * 6 + 1, none⟩ = false := by
  obtain ⟨e, N, F, hN, hr, hc⟩ := h.row
  have := hr.cell (i := k * 6 + 1) (by omega)
  rw [hc k hk 1 _ rfl] at this
  exact ⟨this, hr.frozen _⟩
theorem set (h : KC W b f n) (q : Nat) (t : Int) : KC (W.setCell ⟨b, q * 6 + 1, none⟩ (.int .i64 t)) b (updC f q t) n := ⟨by
  obtain ⟨e, N, F, hN, hr, hc⟩ := h.row
  refine ⟨e, N, _, hN, hr.set _ _, fun k hk i v hv => ?_⟩
  have hi : i < 6 := (List.getElem?_eq_some_iff.1 hv).1
  unfold updC at hv
  by_cases hq : k = q
  · subst hq
    rw [if_pos rfl] at hv
    by_cases h1 : i = 1
    · subst h1
      simp [cC] at hv
      simp [hv]
    · show (if k * 6 + i = k * 6 + 1 then _ else F (k * 6 + i)) = v
      rw [if_neg (by omega)]
      refine hc k hk i v ?_
      match i, hi, h1 with
      | 0, _, _ => exact hv
      | 2, _, _ => exact hv
      | 3, _, _ => exact hv
      | 4, _, _ => exact hv
      | 5, _, _ => exact hv
  · rw [if_neg hq] at hv
    show (if k * 6 + i = q * 6 + 1 then _ else F (k * 6 + i)) = v
    rw [if_neg (by omega)]
    exact hc k hk i v hv⟩
theorem of_wr {l : List Cu} (h : Wr 6 cC W b l) : KC W b (cuG l) l.length := ⟨by
  obtain ⟨e, N, F, hN, hr, hc⟩ := h.row
  refine ⟨e, N, F, hN, hr, fun k hk i v hv => ?_⟩
  rw [cuG_at hk] at hv
  exact hc k hk i v hv (List.getElem?_eq_some_iff.1 hv).1⟩
theorem wr (h : KC W b f n) (hn : n ≤ 9223372036854775807) {l : List Cu} (hl : l.length = n) (he : ∀ k (hk : k < l.length), l[k] = f k) : Wr 6 cC W b l := by
  obtain ⟨e, N, F, hN, hr, hc⟩ := h.row
  refine ⟨by omega, ⟨e, N, F, by omega, hr, fun k hk j v hv hj => ?_⟩, fun _ _ => rfl⟩
  rw [he k hk] at hv
  exact hc k (by omega) j v hv
end KC
theorem itK_oks {l : List Cu} {f b : Int} [hk : COks l] (hv : vCs l = true) (hb : 0 ≤ b ∧ b ≤ 7200000) : COks (itK l f b) := ⟨fun x hx => by
  obtain ⟨y, hy, rfl⟩ := List.mem_map.1 hx
  obtain ⟨h1, h2, h3, h4, h5, h6⟩ := hk.h y hy
  obtain ⟨i, hi, rfl⟩ := List.getElem_of_mem hy
  have hn := vC_num ((vCs_of hv).2 i hi).1
  rw [cuG_at hi] at hn
  unfold bump
  split
  · exact ⟨h1, h2, by unfold bI; show -9223372036854775808 ≤ l[i].t + b ∧ l[i].t + b ≤ 9223372036854775807; omega, h4, h5, h6⟩
  · exact ⟨h1, h2, h3, h4, h5, h6⟩⟩
def itOk (f b : Int) : Prop := (0 ≤ f ∧ f ≤ 7200000) ∧ (0 ≤ b ∧ b ≤ 7200000)
instance (f b : Int) : Decidable (itOk f b) := by unfold itOk; infer_instance
theorem itOk_not {f b : Int} (h : ¬ itOk f b) : (f < 0 ∨ 7200000 < f) ∨ ((0 ≤ f ∧ f ≤ 7200000) ∧ (b < 0 ∨ 7200000 < b)) := by unfold itOk at h; omega
noncomputable def itV (l : List Cu) (f b : Int) : List Cu := if vCs l = true then (if itOk f b then (if vCs (itK l f b) = true then itK l f b else []) else []) else []
noncomputable def itE (l : List Cu) (f b : Int) : Int := if vCs l = true then (if itOk f b then (if vCs (itK l f b) = true then 0 else 6) else 2) else 1
theorem it_inv {l : List Cu} {f b : Int} (h : vCs l = false) : itV l f b = [] ∧ itE l f b = 1 := by unfold itV itE; rw [h]; exact ⟨rfl, rfl⟩
theorem it_rng {l : List Cu} {f b : Int} (h : vCs l = true) (h2 : ¬ itOk f b) : itV l f b = [] ∧ itE l f b = 2 := by unfold itV itE; rw [if_pos h, if_pos h, if_neg h2, if_neg h2]; exact ⟨rfl, rfl⟩
theorem it_bad {l : List Cu} {f b : Int} (h : vCs l = true) (h2 : itOk f b) (h3 : vCs (itK l f b) = false) : itV l f b = [] ∧ itE l f b = 6 := by unfold itV itE; rw [if_pos h, if_pos h, if_pos h2, if_pos h2, h3]; exact ⟨rfl, rfl⟩
theorem it_go {l : List Cu} {f b : Int} (h : vCs l = true) (h2 : itOk f b) (h3 : vCs (itK l f b) = true) : itV l f b = itK l f b ∧ itE l f b = 0 := by unfold itV itE; rw [if_pos h, if_pos h, if_pos h2, if_pos h2, if_pos h3, if_pos h3]; exact ⟨rfl, rfl⟩
theorem itV_len (l : List Cu) (f b : Int) : (itV l f b).length ≤ 64 := by
  unfold itV
  split
  · rename_i h
    have := (vCs_of h).1
    split
    · split
      · rw [itK_len]; omega
      · simp
    · simp
  · simp
theorem vCs_nil : vCs [] = true := vCs_mk (by simp) (fun i hi => absurd hi (by simp))
section
set_option maxHeartbeats 3200000
set_option maxRecDepth 20000
theorem iCsN_any (A : Option Addr) (n c : Nat) (l : List Cu) (w : World) (hk : COks l) (hl : Rd 6 cC w A l) (hnl : l.length = n) (hcap : n ≤ c) (hn : n ≤ 1048576) {r : Bool} (hr : vCs l = r) :
    Calls Tryz.prog 21 #[.slice A n c] w fun e w' => e = .returned (.bool r) ∧ ∃ k : Ex w, w' = k.v := by
  subst hnl; exact iCs_any A c l w hcap hn hr
theorem sCsN_any (A : Option Addr) (n c : Nat) (l : List Cu) (w : World) (hk : COks l) (hl : Rd 6 cC w A l) (hnl : l.length = n) (hn : n ≤ 1048576) {r : Bool} (hr : vCs l = r) :
    Calls Tryz.prog 48 #[.slice A n c] w fun e w' => e = .returned (.bool r) ∧ ∃ k : Ex w, w' = k.v := by
  subst hnl; exact sCs_any A c l w hn hr
theorem iInsertTimeC_any (A : Option Addr) (c : Nat) (l : List Cu) (f b : Int) (w : World) [hk : COks l] [hl : Rd 6 cC w A l] [hp : PlA A c] (hcap : l.length ≤ c) (hn : l.length ≤ 1048576) {rv : List Cu} {re : Int} (hrv : itV l f b = rv) (hre : itE l f b = re) :
    Calls Tryz.prog 15 #[.slice A l.length c, .int .i64 f, .int .i64 b] w fun e w' => ∃ A' c', e = .returned (.tuple #[.slice A' rv.length c', .int .i64 re]) ∧ ∃ k : Ex w, w' = k.v ∧ Ow 6 cC k.v A' rv ∧ Fr w A' ∧ rv.length ≤ c' := by
  subst hrv; subst hre
  have hlen := hl.len
  cases hv : vCs l
  · have HR := hid (it_inv (f := f) (b := b) hv)
    have HV := hid hv
    clear hv
    go_enter Tryz.func15, Tryz.ntmps15
    go_wp2_with ((go_at_call 21; (with_reducible refine (iCs_any _ _ l _ ?_ ?_ (HV.out)).mono ?_); (· omega); (· omega); rintro e w' ⟨rfl, k, rfl⟩))
    go_ret2
    rw [HR.out.1, HR.out.2]
    exact ⟨none, 0, by rfl, k, rfl, Ow.nil, inferInstance, Nat.le_refl _⟩
  · have HV := hid hv
    by_cases hb : itOk f b
    rotate_left
    · have HR := hid (it_rng hv hb)
      rcases itOk_not hb with h | ⟨h1, h⟩
      all_goals
        clear hv hb
        go_enter Tryz.func15, Tryz.ntmps15
        go_wp2_with (first | (go_at_call 21; (with_reducible refine (iCs_any _ _ l _ ?_ ?_ (HV.out)).mono ?_); (· omega); (· omega); rintro e w' ⟨rfl, k, rfl⟩) | (go_at_call 27; first | (refine (wi_yes _ _ _ _ (by omega) (by omega)).mono ?_; rintro e w' ⟨rfl, rfl⟩) | (refine (wi_no _ _ _ _ (by omega)).mono ?_; rintro e w' ⟨rfl, rfl⟩)))
        go_ret2
        rw [HR.out.1, HR.out.2]
        exact ⟨none, 0, by rfl, k, rfl, Ow.nil, inferInstance, Nat.le_refl _⟩
    · have HB := hid (it_bad hv hb)
      have HG := hid (it_go hv hb)
      obtain ⟨⟨hf1, hf2⟩, ⟨hb1, hb2⟩⟩ := hb
      haveI hok2 : COks (itK l f b) := itK_oks hv ⟨hb1, hb2⟩
      have hlk := hid (itK_len l f b)
      clear hv
      go_enter Tryz.func15, Tryz.ntmps15
      go_wp2_with (first | (go_at_call 21; (with_reducible refine (iCs_any _ _ l _ ?_ ?_ (HV.out)).mono ?_); (· omega); (· omega); rintro e w' ⟨rfl, k, rfl⟩) | (go_at_call 27; first | (refine (wi_yes _ _ _ _ (by omega) (by omega)).mono ?_; rintro e w' ⟨rfl, rfl⟩) | (refine (wi_no _ _ _ _ (by omega)).mono ?_; rintro e w' ⟨rfl, rfl⟩)) | (go_at_call 25; (with_reducible refine (clone_own _ _ l _ ?_).mono ?_); (· omega); rintro e w' ⟨A9, c9, rfl, k9, rfl, hrow9⟩))
      obtain ⟨hcc, A2, c2, he, hO2, hF2⟩ : l.length ≤ c9 ∧ ∃ A c, Value.slice A9 l.length c9 = .slice A l.length c ∧ Ow 6 cC k9.v A l ∧ Fr k.v A := by
        refine ⟨?_, own_of_row (w0 := k.v) (f := cC) (fun _ => rfl) hrow9⟩
        rcases hrow9.2 with ⟨h, h0⟩ | ⟨g', cap, cur, h, _, _, hc, _⟩
        · omega
        · cases h; exact hc
      cases he
      clear hrow9
      by_cases hl0 : 0 < l.length
      · obtain ⟨g, rfl, hw9⟩ := hO2.own hl0
        have hkc := hid (KC.of_wr hw9)
        haveI hgk : LeB k.v.heap.size g := ⟨hF2.h _ _ _ rfl⟩
        haveI hgw : LeB w.heap.size g := ⟨Nat.le_trans (inferInstance : LeB w.heap.size k.v.heap.size).h hgk.h⟩
        clear hw9 hO2
        go_loopw [25] (fun t wr => ∃ q : Nat, q ≤ l.length ∧ t = .int .i64 q ∧ ∃ j : Ex w, wr = j.v ∧ KC j.v g (itF l f b q) l.length) (fun t _ => l.length - (intOf t).toNat)
        case atStart => exact ⟨0, Nat.zero_le _, rfl, ex_and (fun W => KC W g (itF l f b 0) l.length) (by (refine Ok.toEx ?_; (repeat (first | (with_reducible exact Ok.rf _) | (with_reducible refine Ok.alloc ?_ _) | (with_reducible refine Ok.ex ?_ _) | (with_reducible refine Ok.drew ?_) | (with_reducible refine Ok.setCellI ?_ _ _ _) | (with_reducible refine Ok.exb ?_ _))))) (by rw [itF_zero]; exact hkc.out)⟩
        case round =>
          obtain ⟨q, hq, rfl, j0, rfl, hR⟩ := hrel
          by_cases hlt : q < l.length
          · have hb9 := hR.lt
            obtain ⟨c0, f0⟩ := hR.c1 hlt
            rw [itF_at] at c0
            have hnum := (vC_num ((vCs_of HV.out).2 q hlt).1).1
            have HR := hid hR
            clear hR
            by_cases hfx : f ≤ (cuG l q).t
            · have HS := hid (itF_on (b := b) hfx)
              generalize cuG l q = x at *
              go_wp2
              go_roundw
              case rel => exact ⟨q + 1, by omega, by go_num, ex_and (fun W => KC W g (itF l f b (q + 1)) l.length) (by (refine Ok.toEx ?_; (repeat (first | (with_reducible exact Ok.rf _) | (with_reducible refine Ok.alloc ?_ _) | (with_reducible refine Ok.ex ?_ _) | (with_reducible refine Ok.drew ?_) | (with_reducible refine Ok.setCellI ?_ _ _ _) | (with_reducible refine Ok.exb ?_ _))))) (by rw [← HS.out]; exact HR.out.set q _)⟩
              case measure => simp [intOf]; omega
            · have HS := hid (itF_off (b := b) hfx)
              generalize cuG l q = x at *
              go_wp2
              go_roundw
              case rel => exact ⟨q + 1, by omega, by go_num, ex_and (fun W => KC W g (itF l f b (q + 1)) l.length) (by (refine Ok.toEx ?_; (repeat (first | (with_reducible exact Ok.rf _) | (with_reducible refine Ok.alloc ?_ _) | (with_reducible refine Ok.ex ?_ _) | (with_reducible refine Ok.drew ?_) | (with_reducible refine Ok.setCellI ?_ _ _ _) | (with_reducible refine Ok.exb ?_ _))))) (by rw [← HS.out]; exact HR.out)⟩
              case measure => simp [intOf]; omega
          · obtain rfl : q = l.length := by omega
            haveI hwr := hR.wr (by omega) (itK_len l f b) (fun k hk => itF_end hk)
            clear hR
            cases hv2 : vCs (itK l f b)
            · have HR := hid (HB.out hv2)
              have HV2 := hid hv2
              clear hv2
              go_wp2_with (go_at_call 21; (with_reducible refine (iCsN_any _ _ _ (itK l f b) _ hok2 ?_ hlk.out ?_ ?_ HV2.out).mono ?_); (· infer_instance); (· omega); (· omega); rintro e w' ⟨rfl, k3, rfl⟩)
              go_ret2
              rw [HR.out.1, HR.out.2]
              exact ⟨none, 0, by rfl, j0.tr k3, rfl, Ow.nil, inferInstance, Nat.le_refl _⟩
            · have HR := hid (HG.out hv2)
              have HV2 := hid hv2
              clear hv2
              go_wp2_with (go_at_call 21; (with_reducible refine (iCsN_any _ _ _ (itK l f b) _ hok2 ?_ hlk.out ?_ ?_ HV2.out).mono ?_); (· infer_instance); (· omega); (· omega); rintro e w' ⟨rfl, k3, rfl⟩)
              go_ret2
              rw [HR.out.1, HR.out.2]
              refine ⟨some ⟨g, 0, none⟩, _, by rw [hlk.out]; rfl, j0.tr k3, rfl, inferInstanceAs (Ow 6 cC k3.v _ _), inferInstance, by rw [hlk.out]; exact hcc⟩
      · have hz : l = [] := List.eq_nil_of_length_eq_zero (by omega)
        subst hz
        have HR := hid (HG.out vCs_nil)
        clear hl0
        go_loopw [25] (fun t wr => t = .int .i64 0 ∧ ∃ j : Ex w, wr = j.v) (fun _ _ => 0)
        case atStart => exact ⟨rfl, (by refine ex_up (w := w) ⟨k9, rfl⟩)⟩
        case round =>
          obtain ⟨rfl, j0, rfl⟩ := hrel
          go_wp2_with (go_at_call 21; (with_reducible refine (iCsN_any _ 0 _ ([] : List Cu) _ hk ?_ rfl ?_ ?_ HV.out).mono ?_); (· infer_instance); (· omega); (· omega); rintro e w' ⟨rfl, k3, rfl⟩)
          go_ret2
          rw [HR.out.1, HR.out.2]
          exact ⟨A9, c9, by rfl, j0.tr k3, rfl, Ow.nil, hF2.mono, Nat.zero_le _⟩
theorem iInsertTime_any (A : Option Addr) (c : Nat) (l : List Cu) (f b : Int) (w : World) [hk : COks l] [hl : Rd 6 cC w A l] [hp : PlA A c] (hcap : l.length ≤ c) (hn : l.length ≤ 1048576) {rv : List Cu} {re : Int} (hrv : itV l f b = rv) (hre : itE l f b = re) :
    Calls Tryz.prog 15 #[.slice A l.length c, .int .i64 f, .int .i64 b] w fun e w' => ∃ A' c', e = .returned (.tuple #[.slice A' rv.length c', .int .i64 re]) ∧ ∃ k : Ex w, w' = k.v ∧ Ow 6 cC k.v A' rv ∧ Fr w A' := by
  refine (iInsertTimeC_any A c l f b w hcap hn hrv hre).mono ?_
  rintro e w' ⟨A', c', rfl, k, rfl, h1, h2, -⟩
  exact ⟨A', c', rfl, k, rfl, h1, h2⟩
end
end Go.Proofs.YtdhflckombkimaaGreatDoor
