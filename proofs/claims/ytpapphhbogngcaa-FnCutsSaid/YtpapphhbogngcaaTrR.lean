/-
  SlowTrack. Conditions: those typed at each theorem.
-/
import Derived.Test.YtpapphhbogngcaaTrQ
import Derived.Laws.Small
namespace Go.Proofs.Ytpapphhbogngcaa
open Go.RowKit
/-- the time that passes between keys k and k + 1 of the slow track -/
def slM (l : List Ky) (s : Int) (k : Nat) : Int := if (kyG l (k + 1)).t - (kyG l k).t < upI (aI ((kyG l (k + 1)).v - (kyG l k).v) * 1000) s then upI (aI ((kyG l (k + 1)).v - (kyG l k).v) * 1000) s else (kyG l (k + 1)).t - (kyG l k).t
theorem slM_hi {l : List Ky} {s : Int} {k : Nat} (h : (kyG l (k + 1)).t - (kyG l k).t < upI (aI ((kyG l (k + 1)).v - (kyG l k).v) * 1000) s) : slM l s k = upI (aI ((kyG l (k + 1)).v - (kyG l k).v) * 1000) s := by unfold slM; rw [if_pos h]
theorem slM_lo {l : List Ky} {s : Int} {k : Nat} (h : ¬ (kyG l (k + 1)).t - (kyG l k).t < upI (aI ((kyG l (k + 1)).v - (kyG l k).v) * 1000) s) : slM l s k = (kyG l (k + 1)).t - (kyG l k).t := by unfold slM; rw [if_neg h]
/-- the time of key k of the slow track -/
def slT (l : List Ky) (s : Int) : Nat → Int
  | 0 => (kyG l 0).t
  | k + 1 => slT l s k + slM l s k
/-- the keys with the first q slowed -/
def slF (l : List Ky) (s : Int) (q : Nat) : Nat → Ky := fun k => if k < q then ⟨slT l s k, (kyG l k).v⟩ else kyG l k
def slK (l : List Ky) (s : Int) : List Ky := (List.range l.length).map fun k => ⟨slT l s k, (kyG l k).v⟩
theorem slK_len (l : List Ky) (s : Int) : (slK l s).length = l.length := by simp [slK]
theorem slF_one (l : List Ky) (s : Int) : slF l s 1 = kyG l := by
  funext k
  unfold slF
  by_cases h : k < 1
  · obtain rfl : k = 0 := by omega
    simp [slT]
  · rw [if_neg h]
theorem slF_nx (l : List Ky) (s : Int) (p : Nat) : slF l s (p + 1) (p + 1) = kyG l (p + 1) := by simp [slF]
theorem slF_pr (l : List Ky) (s : Int) (p : Nat) : slF l s (p + 1) p = ⟨slT l s p, (kyG l p).v⟩ := by simp [slF]
theorem slF_step (l : List Ky) (s : Int) (p : Nat) : updT (slF l s (p + 1)) (p + 1) (slT l s p + slM l s p) = slF l s (p + 1 + 1) := by
  funext k
  unfold updT
  by_cases h : k = p + 1
  · subst h; rw [if_pos rfl, slF_nx, slF_pr]; rfl
  · rw [if_neg h]
    unfold slF
    by_cases h2 : k < p + 1
    · rw [if_pos h2, if_pos (by omega)]
    · rw [if_neg h2, if_neg (by omega)]
theorem slF_end {l : List Ky} {s : Int} {k : Nat} (hk : k < (slK l s).length) : (slK l s)[k] = slF l s l.length k := by
  have hk' : k < l.length := by rwa [slK_len] at hk
  simp [slK, slF, hk']
noncomputable def slR (nm : ByteArray) (l : List Ky) (d : Int) : TR3 := if vT nm l = true then (if 1 ≤ d ∧ d ≤ 1000000 then trChk nm (slK l d) else trErr 2) else trErr 1
theorem slR_inv {nm : ByteArray} {l : List Ky} {d : Int} (h : vT nm l = false) : slR nm l d = trErr 1 := by unfold slR; rw [h]; rfl
theorem slR_rng {nm : ByteArray} {l : List Ky} {d : Int} (h : vT nm l = true) (hd : ¬ (1 ≤ d ∧ d ≤ 1000000)) : slR nm l d = trErr 2 := by unfold slR; rw [if_pos h, if_neg hd]
theorem slR_go {nm : ByteArray} {l : List Ky} {d : Int} (h : vT nm l = true) (hd : 1 ≤ d ∧ d ≤ 1000000) : slR nm l d = trChk nm (slK l d) := by unfold slR; rw [if_pos h, if_pos hd]
theorem slR_len (nm : ByteArray) (l : List Ky) (d : Int) : (slR nm l d).l.length ≤ 24 := by
  unfold slR
  split
  · split
    · exact trChk_len _ _
    · simp [trErr]
  · simp [trErr]
theorem sl_bd {a b s : Int} (ha : -1000000 ≤ a ∧ a ≤ 1000000) (hb : -1000000 ≤ b ∧ b ≤ 1000000) (hs : 1 ≤ s) : (0 ≤ aI (b - a) ∧ aI (b - a) ≤ 2000000) ∧ 0 ≤ upI (aI (b - a) * 1000) s ∧ upI (aI (b - a) * 1000) s ≤ 2000000000 := by
  have h1 := aI_bd (n := b - a) (M := 2000000) (by omega) (by omega)
  exact ⟨h1, upI_bd (by omega) (by omega) (by omega)⟩
theorem slT_bd {l : List Ky} (h : VK l) {s : Int} (hs : 1 ≤ s) : ∀ p : Nat, p < l.length → 0 ≤ slT l s p ∧ slT l s p ≤ 7200000 + (p : Int) * 3000000000
  | 0, hp => by
    have := h.kg 0 hp
    unfold slT
    omega
  | p + 1, hp => by
    have h1 := slT_bd h hs p (by omega)
    have h2 := h.kg p (by omega)
    have h3 := h.kg (p + 1) hp
    have h4 := h.kgr p hp
    have h5 := sl_bd (s := s) h2.2 h3.2 hs
    unfold slT
    by_cases hx : (kyG l (p + 1)).t - (kyG l p).t < upI (aI ((kyG l (p + 1)).v - (kyG l p).v) * 1000) s
    · rw [slM_hi hx]; omega
    · rw [slM_lo hx]; omega
theorem But.al {A : Option Addr} {w w' : World} (h : But A w w') (o : Obj) : But A w (w'.alloc o) := But.ex h (Ex.of ((Below.refl _ _).alloc (Nat.le_refl _) o))
section
set_option maxHeartbeats 3200000
set_option maxRecDepth 20000
theorem iSlow_any (nm : ByteArray) (A : Option Addr) (c : Nat) (l : List Ky) (d : Int) (w : World) [hl : Rd 2 kC w A l] (hs : nm.size ≤ maxLen) (hn : l.length ≤ 1048576) :
    Calls Try.prog 29 #[.agg #[.string nm, .slice A l.length c], .int .i64 d] w (TrPost (slR nm l d) w) := by
  cases hv : vT nm l
  · have HR := hid (slR_inv (d := d) hv)
    go_enter Try.func29, Try.ntmps29
    go_wp2_with ((go_at_call 58; (with_reducible refine (iVT_any nm _ _ l _ hs hn).mono ?_); rw [hv]; rintro e w' ⟨rfl, k, rfl⟩))
    (refine bodyPost_ret (v := _) (by first | (simp [results, Try.results29, go_sem]; done) | (simp [results, Try.results29, go_sem]; rfl)) rfl ?_; rw [HR.out]; refine trPost_err (by rfl) ?_; (refine Ok.toEx ?_; (repeat (first | (with_reducible exact Ok.rf _) | (with_reducible refine Ok.alloc ?_ _) | (with_reducible refine Ok.ex ?_ _) | (with_reducible refine Ok.drew ?_) | (with_reducible refine Ok.setCellI ?_ _ _ _) | (with_reducible refine Ok.exb ?_ _)))))
  · by_cases hd : 1 ≤ d ∧ d ≤ 1000000
    rotate_left
    · have HR := hid (slR_rng hv hd)
      have hd : d < 1 ∨ 1000000 < d := by omega
      go_enter Try.func29, Try.ntmps29
      go_wp2_with (first | (go_at_call 58; (with_reducible refine (iVT_any nm _ _ l _ hs hn).mono ?_); rw [hv]; rintro e w' ⟨rfl, k, rfl⟩) | (go_at_call 43; first | (refine (wi_yes _ _ _ _ (by omega) (by omega)).mono ?_; rintro e w' ⟨rfl, rfl⟩) | (refine (wi_no _ _ _ _ (by omega)).mono ?_; rintro e w' ⟨rfl, rfl⟩)))
      (refine bodyPost_ret (v := _) (by first | (simp [results, Try.results29, go_sem]; done) | (simp [results, Try.results29, go_sem]; rfl)) rfl ?_; rw [HR.out]; refine trPost_err (by rfl) ?_; (refine Ok.toEx ?_; (repeat (first | (with_reducible exact Ok.rf _) | (with_reducible refine Ok.alloc ?_ _) | (with_reducible refine Ok.ex ?_ _) | (with_reducible refine Ok.drew ?_) | (with_reducible refine Ok.setCellI ?_ _ _ _) | (with_reducible refine Ok.exb ?_ _)))))
    · have HR := hid (slR_go hv hd)
      have hk := (vT_of hv).2.vk
      have hkn := hk.n
      have HK := hid hk
      clear hk
      obtain ⟨hd1, hd2⟩ := hd
      have HA := hid hl.kg
      have hln := hid (slK_len l d)
      go_enter Try.func29, Try.ntmps29
      go_wp2_with (first | (go_at_call 58; (with_reducible refine (iVT_any nm _ _ l _ hs hn).mono ?_); rw [hv]; rintro e w' ⟨rfl, k, rfl⟩) | (go_at_call 43; first | (refine (wi_yes _ _ _ _ (by omega) (by omega)).mono ?_; rintro e w' ⟨rfl, rfl⟩) | (refine (wi_no _ _ _ _ (by omega)).mono ?_; rintro e w' ⟨rfl, rfl⟩)) | (go_at_call 64; (with_reducible refine (clone_any _ _ l _ ?_ ?_).mono ?_); (· omega); (· omega); rintro e w' ⟨g, c9, rfl, hcc, k9, rfl, hw9, hg9⟩))
      haveI hkr := KR.of_wr hw9
      have hg1 := hw9.lt.h
      have hg2 := hg9.h
      have hg3 := (inferInstance : LtW (w.heap.size + 1) k.v).h
      have hg4 := (inferInstance : LtW (w.heap.size + 1) k9.v).h
      have z0 : k9.v.cell? ⟨w.heap.size, 0, none⟩ = some (.string nm) := by simp [go_sem]
      have z1 : k9.v.cell? ⟨w.heap.size, 1, none⟩ = some (.slice A l.length c) := by simp [go_sem]
      have y0 : k9.v.cell? ⟨w.heap.size + 1, 0, none⟩ = some (.string ⟨#[]⟩) := by simp [go_sem]
      have y1 : k9.v.cell? ⟨w.heap.size + 1, 1, none⟩ = some (.slice none 0 0) := by simp [go_sem]
      have yf : ∀ o, k9.v.frozen? ⟨w.heap.size + 1, o, none⟩ = false := by intro o; simp [go_sem]
      haveI l6 : LtW w.heap.size k9.v := by infer_instance
      haveI l4 : LtW (w.heap.size + 1) k9.v := by infer_instance
      have hkr0 : Hid (KR k9.v g (slF l d 1) l.length) := hid (by rw [slF_one]; infer_instance)
      have YF := hid yf
      clear yf
      haveI hgl : LeB w.heap.size g := ⟨by omega⟩
      haveI hgn : NeB (w.heap.size + 1) g := ⟨by omega⟩
      have hEx : ∃ j : Ex w, k9.v = j.v := by (refine Ok.toEx ?_; (repeat (first | (with_reducible exact Ok.rf _) | (with_reducible refine Ok.alloc ?_ _) | (with_reducible refine Ok.ex ?_ _) | (with_reducible refine Ok.drew ?_) | (with_reducible refine Ok.setCellI ?_ _ _ _) | (with_reducible refine Ok.exb ?_ _))))
      obtain ⟨j9, hj9⟩ := hEx
      rw [hj9] at z0 z1 y0 y1 YF l6 l4 hkr0 ⊢
      clear hj9 hw9
      go_loopw [7] (fun t wr => ∃ p : Nat, p + 1 ≤ l.length ∧ t = .int .i64 ((p : Int) + 1) ∧ ∃ j : Ex w, wr = j.v ∧ KR j.v g (slF l d (p + 1)) l.length ∧ But (some ⟨g, 0, none⟩) j9.v j.v) (fun t _ => l.length - (intOf t).toNat)
      case atStart => exact ⟨0, by omega, by go_num, j9, rfl, hkr0.out, But.rf _ _⟩
      case round =>
        obtain ⟨p, hq, rfl, j0, rfl, hR, hB⟩ := hrel
        have x2 := hB.cell (b := w.heap.size) (fun o => ne_blk (by omega)) 0 z0
        have x3 := hB.cell (b := w.heap.size) (fun o => ne_blk (by omega)) 1 z1
        haveI l7' : LtW w.heap.size j0.v := hB.lt
        have HB := hid hB
        clear hB
        by_cases hlt : p + 1 < l.length
        · have hltI : (p : Int) + 1 < l.length := by omega
          have hb1 := hR.lt
          obtain ⟨b', o, rfl, hbw, hc⟩ := HA.out (by omega)
          obtain ⟨a0, a1⟩ := hc p (by omega)
          obtain ⟨d0, d1⟩ := hc (p + 1) hlt
          clear hc
          obtain ⟨c0, f0⟩ := hR.c0 (k := p + 1) hlt
          obtain ⟨e0, -⟩ := hR.c0 (k := p) (by omega)
          have e1 := hR.c1 (k := p) (by omega)
          have e3 := hR.c1 (k := p + 1) hlt
          rw [slF_nx] at c0 e3
          rw [slF_pr] at e0 e1
          obtain ⟨⟨t1, t2⟩, ⟨v1, v2⟩⟩ := HK.out.kg p (by omega)
          obtain ⟨⟨t3, t4⟩, ⟨v3, v4⟩⟩ := HK.out.kg (p + 1) hlt
          have r1 := HK.out.kgr p hlt
          obtain ⟨⟨b1, b2⟩, b3, b4⟩ := sl_bd (s := d) ⟨v1, v2⟩ ⟨v3, v4⟩ hd1
          obtain ⟨b5, b6⟩ := slT_bd HK.out hd1 p (by omega)
          have HR' := hid hR
          clear hR
          by_cases hX : (kyG l (p + 1)).t - (kyG l p).t < upI (aI ((kyG l (p + 1)).v - (kyG l p).v) * 1000) d
          · have HS : Hid (updT (slF l d (p + 1)) (p + 1) (slT l d p + upI (aI ((kyG l (p + 1)).v - (kyG l p).v) * 1000) d) = slF l d (p + 1 + 1)) := hid (by rw [← slF_step, slM_hi hX])
            generalize kyG l p = x at *
            generalize kyG l (p + 1) = y at *
            generalize slT l d p = T at *
            go_upto_region 9 with fail
            go_cut [8, 9] from 27 to 45 (fun u8 u9 wx => ∃ (p9 : Nat) (j1 : Ex j0.v), wx = j1.v ∧ u8 = .int .i64 (y.t - x.t) ∧ u9 = .pointer (some ⟨p9, 0, none⟩) ∧ LtW p9 j1.v ∧ j1.v.cell? ⟨p9, 0, none⟩ = some (.int .i64 T) ∧ j1.v.cell? ⟨p9, 1, none⟩ = some (.int .i64 x.v))
            case first =>
              have hz0 : (0 : Int) ≤ (p : Int) := by omega
              have hz1 : (p : Int) < (l.length : Int) := by omega
              have hz2 : (0 : Int) ≤ (p : Int) + 1 := by omega
              have hz3 : IntKind.i64.wrap ((p : Int) + 1 - 1) = (p : Int) := (IntWalk.i64_in _ (by omega)).trans (by omega)
              have hz6 : IntKind.i64.wrap (p : Int) = (p : Int) := IntWalk.i64_in _ (by omega)
              have hz7 : IntKind.i64.wrap (y.t - x.t) = y.t - x.t := IntWalk.i64_in _ (by omega)
              have hz4 : ((p : Int) + 1).toNat = p + 1 := by omega
              have hz5 : p < l.length := by omega
              go_region_held3 (fun W => W.cell? ⟨w.heap.size, 1, none⟩ = some (.slice (some ⟨b', o, none⟩) l.length c) ∧ W.cell? ⟨b', o + (p + 1) * 2, none⟩ = some (.int .i64 y.t) ∧ W.cell? ⟨b', o + p * 2, none⟩ = some (.int .i64 x.t) ∧ W.cell? ⟨g, p * 2, none⟩ = some (.int .i64 T) ∧ W.cell? ⟨g, p * 2 + 1, none⟩ = some (.int .i64 x.v)) ((refine ⟨?_, ?_, ?_, ?_, ?_⟩ <;> simp [go_sem, a0, d0, e0, e1, x3])) (fail)
              all_goals
                go_wp2_with fail
                go_meet
                exact ⟨_, ⟨_, (((Below.refl _ _).alloc (Nat.le_refl _) _)).drew⟩, rfl, rfl, rfl, by infer_instance, by simp [go_sem], by simp [go_sem]⟩
            case rest =>
              obtain ⟨p9, j1, rfl, rfl, rfl, hp9, s0, s1⟩ := hcut
              go_wp2
              (refine wp_region_ex_tail 21 (by kernel_rfl) (by kernel_rfl) ?_; simp only [List.take_succ_cons, List.take_zero, List.drop_succ_cons, List.drop_zero]; (repeat (go_big_quiet_step (((first | (go_at_call 66; exact calls_ex_same (iAbs_any _ _ ⟨by omega, by omega⟩)) | (go_at_call 65; exact calls_ex_same (iUp_any _ _ _ ⟨⟨by omega, by omega⟩, by omega, by omega⟩))))))); refine wpQuiet_nil ?_; intro k)
              go_wp2
              go_roundw
              case rel => exact ⟨p + 1, by omega, by go_num, ex_and (fun W => KR W g (slF l d (p + 1 + 1)) l.length ∧ But (some ⟨g, 0, none⟩) j9.v W) (by (refine Ok.toEx ?_; (repeat (first | (with_reducible exact Ok.rf _) | (with_reducible refine Ok.alloc ?_ _) | (with_reducible refine Ok.ex ?_ _) | (with_reducible refine Ok.drew ?_) | (with_reducible refine Ok.setCellI ?_ _ _ _) | (with_reducible refine Ok.exb ?_ _))))) ⟨by rw [← HS.out]; exact KR.set (haveI := HR'.out; inferInstance) _ _, by repeat (first | exact HB.out | refine But.set ?_ _ _ | refine But.ex ?_ _ | refine But.al ?_ _)⟩⟩
              case measure => simp [intOf]; omega
          · have HS : Hid (updT (slF l d (p + 1)) (p + 1) (slT l d p + ((kyG l (p + 1)).t - (kyG l p).t)) = slF l d (p + 1 + 1)) := hid (by rw [← slF_step, slM_lo hX])
            generalize kyG l p = x at *
            generalize kyG l (p + 1) = y at *
            generalize slT l d p = T at *
            have hX : upI (aI (y.v - x.v) * 1000) d ≤ y.t - x.t := by omega
            go_upto_region 9 with fail
            go_cut [8, 9] from 27 to 45 (fun u8 u9 wx => ∃ (p9 : Nat) (j1 : Ex j0.v), wx = j1.v ∧ u8 = .int .i64 (y.t - x.t) ∧ u9 = .pointer (some ⟨p9, 0, none⟩) ∧ LtW p9 j1.v ∧ j1.v.cell? ⟨p9, 0, none⟩ = some (.int .i64 T) ∧ j1.v.cell? ⟨p9, 1, none⟩ = some (.int .i64 x.v))
            case first =>
              have hz0 : (0 : Int) ≤ (p : Int) := by omega
              have hz1 : (p : Int) < (l.length : Int) := by omega
              have hz2 : (0 : Int) ≤ (p : Int) + 1 := by omega
              have hz3 : IntKind.i64.wrap ((p : Int) + 1 - 1) = (p : Int) := (IntWalk.i64_in _ (by omega)).trans (by omega)
              have hz6 : IntKind.i64.wrap (p : Int) = (p : Int) := IntWalk.i64_in _ (by omega)
              have hz7 : IntKind.i64.wrap (y.t - x.t) = y.t - x.t := IntWalk.i64_in _ (by omega)
              have hz4 : ((p : Int) + 1).toNat = p + 1 := by omega
              have hz5 : p < l.length := by omega
              go_region_held3 (fun W => W.cell? ⟨w.heap.size, 1, none⟩ = some (.slice (some ⟨b', o, none⟩) l.length c) ∧ W.cell? ⟨b', o + (p + 1) * 2, none⟩ = some (.int .i64 y.t) ∧ W.cell? ⟨b', o + p * 2, none⟩ = some (.int .i64 x.t) ∧ W.cell? ⟨g, p * 2, none⟩ = some (.int .i64 T) ∧ W.cell? ⟨g, p * 2 + 1, none⟩ = some (.int .i64 x.v)) ((refine ⟨?_, ?_, ?_, ?_, ?_⟩ <;> simp [go_sem, a0, d0, e0, e1, x3])) (fail)
              all_goals
                go_wp2_with fail
                go_meet
                exact ⟨_, ⟨_, (((Below.refl _ _).alloc (Nat.le_refl _) _)).drew⟩, rfl, rfl, rfl, by infer_instance, by simp [go_sem], by simp [go_sem]⟩
            case rest =>
              obtain ⟨p9, j1, rfl, rfl, rfl, hp9, s0, s1⟩ := hcut
              go_wp2
              (refine wp_region_ex_tail 21 (by kernel_rfl) (by kernel_rfl) ?_; simp only [List.take_succ_cons, List.take_zero, List.drop_succ_cons, List.drop_zero]; (repeat (go_big_quiet_step (((first | (go_at_call 66; exact calls_ex_same (iAbs_any _ _ ⟨by omega, by omega⟩)) | (go_at_call 65; exact calls_ex_same (iUp_any _ _ _ ⟨⟨by omega, by omega⟩, by omega, by omega⟩))))))); refine wpQuiet_nil ?_; intro k)
              go_wp2
              go_roundw
              case rel => exact ⟨p + 1, by omega, by go_num, ex_and (fun W => KR W g (slF l d (p + 1 + 1)) l.length ∧ But (some ⟨g, 0, none⟩) j9.v W) (by (refine Ok.toEx ?_; (repeat (first | (with_reducible exact Ok.rf _) | (with_reducible refine Ok.alloc ?_ _) | (with_reducible refine Ok.ex ?_ _) | (with_reducible refine Ok.drew ?_) | (with_reducible refine Ok.setCellI ?_ _ _ _) | (with_reducible refine Ok.exb ?_ _))))) ⟨by rw [← HS.out]; exact KR.set (haveI := HR'.out; inferInstance) _ _, by repeat (first | exact HB.out | refine But.set ?_ _ _ | refine But.ex ?_ _ | refine But.al ?_ _)⟩⟩
              case measure => simp [intOf]; omega
        · have hltI : ¬ (p : Int) + 1 < l.length := by omega
          obtain hpl : p + 1 = l.length := by omega
          have v0 := HB.out.cell (b := w.heap.size + 1) (fun o => ne_blk (by omega)) 0 y0
          have v1 := HB.out.cell (b := w.heap.size + 1) (fun o => ne_blk (by omega)) 1 y1
          have f0 := (HB.out.frozen (b := w.heap.size + 1) (fun o => ne_blk (by omega)) 0).trans (YF.out 0)
          have f1 := (HB.out.frozen (b := w.heap.size + 1) (fun o => ne_blk (by omega)) 1).trans (YF.out 1)
          haveI l4' : LtW (w.heap.size + 1) j0.v := HB.out.lt
          haveI hwr := hR.wr (by omega) (slK_len l d) (fun k hk => by rw [hpl]; exact slF_end hk)
          clear hR
          cases hv2 : vT nm (slK l d)
          · have HR2 := hid (trChk_no hv2)
            go_wp2_with (go_at_call 61; refine (chkN_no nm _ _ _ (slK l d) _ ?_ hln.out hs hn hv2).mono ?_; (· infer_instance); rintro e w' ⟨rfl, k8, rfl⟩)
            refine bodyPost_ret (v := _) (by first | (simp [results, Try.results29, go_sem, v0, v1]; done) | (simp [results, Try.results29, go_sem, v0, v1]; rfl)) rfl ?_
            rw [HR.out, HR2.out]
            refine trPost_err (by rfl) ?_
            (refine Ok.toEx ?_; (repeat (first | (with_reducible exact Ok.rf _) | (with_reducible refine Ok.alloc ?_ _) | (with_reducible refine Ok.ex ?_ _) | (with_reducible refine Ok.drew ?_) | (with_reducible refine Ok.setCellI ?_ _ _ _) | (with_reducible refine Ok.exb ?_ _))))
          · have HR2 := hid (trChk_yes hv2)
            go_wp2_with (go_at_call 61; refine (chkN_yes nm _ _ _ (slK l d) _ ?_ hln.out hs hn hv2).mono ?_; (· infer_instance); rintro e w' ⟨rfl, k8, rfl⟩)
            refine bodyPost_ret (v := _) (by first | (simp [results, Try.results29, go_sem, v0, v1]; done) | (simp [results, Try.results29, go_sem, v0, v1]; rfl)) rfl ?_
            rw [HR.out, HR2.out]
            refine trPostN_ok hln.out (by rfl) ?_ (by infer_instance) hgl
            (refine Ok.toEx ?_; (repeat (first | (with_reducible exact Ok.rf _) | (with_reducible refine Ok.alloc ?_ _) | (with_reducible refine Ok.ex ?_ _) | (with_reducible refine Ok.drew ?_) | (with_reducible refine Ok.setCellI ?_ _ _ _) | (with_reducible refine Ok.exb ?_ _))))
end
end Go.Proofs.Ytpapphhbogngcaa
