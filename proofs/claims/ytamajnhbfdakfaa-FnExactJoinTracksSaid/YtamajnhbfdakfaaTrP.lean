/-
  StretchTrack. Conditions: those typed at each theorem.
-/
import Derived.Test.YtamajnhbfdakfaaTrN
namespace Go.Proofs.Ytamajnhbfdakfaa
open Go.RowKit
def strK (l : List Ky) (n d : Int) : List Ky := l.map fun k => ⟨k.t * n / d, k.v⟩
noncomputable def strR (nm : ByteArray) (l : List Ky) (n d : Int) : TR3 := if vT nm l = true then (if (1 ≤ n ∧ n ≤ 100) ∧ 1 ≤ d ∧ d ≤ 100 then trChk nm (strK l n d) else trErr 2) else trErr 1
theorem strK_len (l : List Ky) (n d : Int) : (strK l n d).length = l.length := by simp [strK]
/-- the keys with the first q stretched -/
def stF (l : List Ky) (n d : Int) (q : Nat) : Nat → Ky := fun k => if k < q then ⟨(kyG l k).t * n / d, (kyG l k).v⟩ else kyG l k
theorem stF_step (l : List Ky) (n d : Int) (q : Nat) : updT (stF l n d q) q ((kyG l q).t * n / d) = stF l n d (q + 1) := by
  funext k
  unfold updT stF
  by_cases h : k = q
  · subst h; simp
  · by_cases h2 : k < q
    · simp [h, h2, show k < q + 1 by omega]
    · simp [h, h2, show ¬ k < q + 1 by omega]
theorem stF_at (l : List Ky) (n d : Int) (q : Nat) : stF l n d q q = kyG l q := by simp [stF]
theorem stF_zero (l : List Ky) (n d : Int) : stF l n d 0 = kyG l := by funext k; simp [stF]
theorem stF_end {l : List Ky} {n d : Int} {k : Nat} (hk : k < (strK l n d).length) : (strK l n d)[k] = stF l n d l.length k := by
  have hk' : k < l.length := by rwa [strK_len] at hk
  simp [strK, stF, hk', kyG_at hk']
theorem strR_inv {nm : ByteArray} {l : List Ky} {n d : Int} (h : vT nm l = false) : strR nm l n d = trErr 1 := by unfold strR; rw [h]; rfl
theorem strR_rng {nm : ByteArray} {l : List Ky} {n d : Int} (h : vT nm l = true) (hd : ¬ ((1 ≤ n ∧ n ≤ 100) ∧ 1 ≤ d ∧ d ≤ 100)) : strR nm l n d = trErr 2 := by unfold strR; rw [if_pos h, if_neg hd]
theorem strR_go {nm : ByteArray} {l : List Ky} {n d : Int} (h : vT nm l = true) (hd : (1 ≤ n ∧ n ≤ 100) ∧ 1 ≤ d ∧ d ≤ 100) : strR nm l n d = trChk nm (strK l n d) := by unfold strR; rw [if_pos h, if_pos hd]
theorem strR_len (nm : ByteArray) (l : List Ky) (n d : Int) : (strR nm l n d).l.length ≤ 24 := by
  unfold strR
  split
  · split
    · exact trChk_len _ _
    · simp [trErr]
  · simp [trErr]
theorem str_bd {t n d : Int} (t1 : 0 ≤ t) (t2 : t ≤ 7200000) (hn : 1 ≤ n ∧ n ≤ 100) (hd : 1 ≤ d ∧ d ≤ 100) : 0 ≤ t * n ∧ t * n ≤ 720000000 ∧ 0 ≤ t * n / d ∧ t * n / d ≤ 720000000 := by
  have h1 : 0 ≤ t * n := Int.mul_nonneg t1 (by omega)
  have h2 := (prod_bd (a := t) (b := n) (A := 7200000) (B := 100) (by omega) t2 (by omega) hn.2 (by omega)).2
  have h3 : t * n / d ≤ t * n := Int.ediv_le_self _ h1
  exact ⟨h1, by omega, Int.ediv_nonneg h1 (by omega), by omega⟩
theorem KR.kx {W : World} {b : Nat} {f : Nat → Ky} {n : Nat} (h : KR W b f n) (k : Ex W) : KR k.v b f n := h.block (k.block h.lt.h)
section
set_option maxHeartbeats 3200000
set_option maxRecDepth 20000
theorem sStretch_any (nm : ByteArray) (A : Option Addr) (c : Nat) (l : List Ky) (n d : Int) (w : World) [hl : Rd 2 kC w A l] (hs : nm.size ≤ maxLen) (hn : l.length ≤ 1048576) :
    Calls Try.prog 33 #[.agg #[.string nm, .slice A l.length c], .int .i64 n, .int .i64 d] w (TrPost (strR nm l n d) w) := by
  cases hv : vT nm l
  · have HR := hid (strR_inv (n := n) (d := d) hv)
    go_enter Try.func33, Try.ntmps33
    go_wp2_with ((go_at_call 64; (refine (one_any nm A c l _ _ hs hn ?_ ?_).mono ?_); (· simp [go_sem]); (· simp [go_sem]); rw [hv]; rintro e w' ⟨rfl, k, rfl⟩))
    (refine bodyPost_ret (v := _) (by first | (simp [results, Try.results33, go_sem]; done) | (simp [results, Try.results33, go_sem]; rfl)) rfl ?_; rw [HR.out]; refine trPost_err (by rfl) ?_; (refine Ok.toEx ?_; (repeat (first | (with_reducible exact Ok.rf _) | (with_reducible refine Ok.alloc ?_ _) | (with_reducible refine Ok.ex ?_ _) | (with_reducible refine Ok.drew ?_) | (with_reducible refine Ok.setCellI ?_ _ _ _) | (with_reducible refine Ok.exb ?_ _)))))
  · by_cases hd : (1 ≤ n ∧ n ≤ 100) ∧ 1 ≤ d ∧ d ≤ 100
    rotate_left
    · have HR := hid (strR_rng hv hd)
      have hd' : (n < 1 ∨ 100 < n) ∨ ((1 ≤ n ∧ n ≤ 100) ∧ (d < 1 ∨ 100 < d)) := by omega
      clear hd
      rcases hd' with hd | ⟨⟨hn1, hn2⟩, hd⟩
      all_goals
        go_enter Try.func33, Try.ntmps33
        go_wp2_with (first | (go_at_call 64; (refine (one_any nm A c l _ _ hs hn ?_ ?_).mono ?_); (· simp [go_sem]); (· simp [go_sem]); rw [hv]; rintro e w' ⟨rfl, k, rfl⟩) | (go_at_call 76; first | (refine (in_yes _ _ _ _ (by omega) (by omega)).mono ?_; rintro e w' ⟨rfl, rfl⟩) | (refine (in_no _ _ _ _ (by omega)).mono ?_; rintro e w' ⟨rfl, rfl⟩)))
        (refine bodyPost_ret (v := _) (by first | (simp [results, Try.results33, go_sem]; done) | (simp [results, Try.results33, go_sem]; rfl)) rfl ?_; rw [HR.out]; refine trPost_err (by rfl) ?_; (refine Ok.toEx ?_; (repeat (first | (with_reducible exact Ok.rf _) | (with_reducible refine Ok.alloc ?_ _) | (with_reducible refine Ok.ex ?_ _) | (with_reducible refine Ok.drew ?_) | (with_reducible refine Ok.setCellI ?_ _ _ _) | (with_reducible refine Ok.exb ?_ _)))))
    · have HR := hid (strR_go hv hd)
      have hk := (vT_of hv).2.vk
      have hkn := hk.n
      have HK := hid hk
      clear hk
      obtain ⟨⟨hn1, hn2⟩, hd1, hd2⟩ := hd
      have hln := hid (strK_len l n d)
      go_enter Try.func33, Try.ntmps33
      go_wp2_with (first | (go_at_call 64; (refine (one_any nm A c l _ _ hs hn ?_ ?_).mono ?_); (· simp [go_sem]); (· simp [go_sem]); rw [hv]; rintro e w' ⟨rfl, k, rfl⟩) | (go_at_call 76; first | (refine (in_yes _ _ _ _ (by omega) (by omega)).mono ?_; rintro e w' ⟨rfl, rfl⟩) | (refine (in_no _ _ _ _ (by omega)).mono ?_; rintro e w' ⟨rfl, rfl⟩)) | (go_at_call 77; (with_reducible refine (own_any nm A c l _ _ ?_ ?_ ?_ ?_).mono ?_); (· omega); (· omega); (· simp [go_sem]); (· simp [go_sem]); rintro e w' ⟨g, c9, rfl, k9, rfl, hw9, hg9⟩))
      haveI hkr := KR.of_wr hw9
      have hg1 := hw9.lt.h
      have hg2 := hg9.h
      have hg3 := (inferInstance : LtW (w.heap.size + 1) k.v).h
      have hg4 := (inferInstance : LtW (w.heap.size + 1) k9.v).h
      obtain ⟨W1, hW1⟩ : ∃ W1, W1 = k9.v.alloc (.cells #[.string nm, .slice (some ⟨g, 0, none⟩) l.length c9] 29) := ⟨_, rfl⟩
      have z0 : W1.cell? ⟨k9.v.heap.size, 0, none⟩ = some (.string nm) := by rw [hW1]; simp [go_sem]
      have z1 : W1.cell? ⟨k9.v.heap.size, 1, none⟩ = some (.slice (some ⟨g, 0, none⟩) l.length c9) := by rw [hW1]; simp [go_sem]
      have y0 : W1.cell? ⟨w.heap.size + 1, 0, none⟩ = some (.string ⟨#[]⟩) := by rw [hW1]; simp [go_sem]
      have y1 : W1.cell? ⟨w.heap.size + 1, 1, none⟩ = some (.slice none 0 0) := by rw [hW1]; simp [go_sem]
      have yf : ∀ o, W1.frozen? ⟨w.heap.size + 1, o, none⟩ = false := by intro o; rw [hW1]; simp [go_sem]
      haveI l6 : LtW k9.v.heap.size W1 := by rw [hW1]; infer_instance
      haveI l4 : LtW (w.heap.size + 1) W1 := by rw [hW1]; infer_instance
      have hkr0 : Hid (KR W1 g (stF l n d 0) l.length) := hid (by rw [hW1, stF_zero]; infer_instance)
      have hEx : ∃ j : Ex w, W1 = j.v := by rw [hW1]; (refine Ok.toEx ?_; (repeat (first | (with_reducible exact Ok.rf _) | (with_reducible refine Ok.alloc ?_ _) | (with_reducible refine Ok.ex ?_ _) | (with_reducible refine Ok.drew ?_) | (with_reducible refine Ok.setCellI ?_ _ _ _) | (with_reducible refine Ok.exb ?_ _))))
      rw [← hW1]
      have YF := hid yf
      clear hW1 yf
      generalize k9.v.heap.size = T6 at *
      haveI hgl : LeB w.heap.size g := ⟨by omega⟩
      haveI hgn : NeB (w.heap.size + 1) g := ⟨by omega⟩
      obtain ⟨j9, rfl⟩ := hEx
      go_loopw [9] (fun t wr => ∃ q : Nat, q ≤ l.length ∧ t = .int .i64 q ∧ ∃ j : Ex w, wr = j.v ∧ KR j.v g (stF l n d q) l.length ∧ But (some ⟨g, 0, none⟩) j9.v j.v) (fun t _ => l.length - (intOf t).toNat)
      case atStart => exact ⟨0, Nat.zero_le _, rfl, j9, rfl, hkr0.out, But.rf _ _⟩
      case round =>
        obtain ⟨q, hq, rfl, j0, rfl, hR, hB⟩ := hrel
        have x0 := hB.cell (b := T6) (fun o => ne_blk (by omega)) 0 z0
        have x1 := hB.cell (b := T6) (fun o => ne_blk (by omega)) 1 z1
        haveI l6' : LtW T6 j0.v := hB.lt
        have HB := hid hB
        clear hB
        by_cases hlt : q < l.length
        · have hb1 := hR.lt
          obtain ⟨c0, f0⟩ := hR.c0 hlt
          rw [stF_at] at c0
          obtain ⟨⟨t1, t2⟩, -⟩ := HK.out.kg q hlt
          have HR' := hid hR
          have HS := hid (stF_step l n d q)
          clear hR
          obtain ⟨p1, p2, p3, p4⟩ := str_bd t1 t2 ⟨hn1, hn2⟩ ⟨hd1, hd2⟩
          generalize hx : kyG l q = x at *
          go_wp2
          (refine wp_region_ex_tail 15 (by kernel_rfl) (by kernel_rfl) ?_; simp only [List.take_succ_cons, List.take_zero, List.drop_succ_cons, List.drop_zero]; (repeat (go_big_quiet_step ((fail)))); refine wpQuiet_nil ?_; intro k)
          go_wp2
          go_roundw
          case rel => exact ⟨q + 1, by omega, by go_num, ex_and (fun W => KR W g (stF l n d (q + 1)) l.length ∧ But (some ⟨g, 0, none⟩) j9.v W) (by (refine Ok.toEx ?_; (repeat (first | (with_reducible exact Ok.rf _) | (with_reducible refine Ok.alloc ?_ _) | (with_reducible refine Ok.ex ?_ _) | (with_reducible refine Ok.drew ?_) | (with_reducible refine Ok.setCellI ?_ _ _ _) | (with_reducible refine Ok.exb ?_ _))))) ⟨by rw [← HS.out]; exact (KR.kx HR'.out k).set q _, But.set (But.ex HB.out k) _ _⟩⟩
          case measure => simp [intOf]; omega
        · obtain rfl : q = l.length := by omega
          have v0 := HB.out.cell (b := w.heap.size + 1) (fun o => ne_blk (by omega)) 0 y0
          have v1 := HB.out.cell (b := w.heap.size + 1) (fun o => ne_blk (by omega)) 1 y1
          have f0 := (HB.out.frozen (b := w.heap.size + 1) (fun o => ne_blk (by omega)) 0).trans (YF.out 0)
          have f1 := (HB.out.frozen (b := w.heap.size + 1) (fun o => ne_blk (by omega)) 1).trans (YF.out 1)
          haveI l4' : LtW (w.heap.size + 1) j0.v := HB.out.lt
          haveI hwr := hR.wr (by omega) (strK_len l n d) (fun k hk => stF_end hk)
          clear hR
          cases hv2 : vT nm (strK l n d)
          · have HR2 := hid (trChk_no hv2)
            go_wp2_with (go_at_call 78; refine (doneN_no nm _ _ _ (strK l n d) _ ?_ hln.out hs hn hv2).mono ?_; (· infer_instance); rintro e w' ⟨rfl, k8, rfl⟩)
            refine bodyPost_ret (v := _) (by first | (simp [results, Try.results33, go_sem, v0, v1]; done) | (simp [results, Try.results33, go_sem, v0, v1]; rfl)) rfl ?_
            rw [HR.out, HR2.out]
            refine trPost_err (by rfl) ?_
            (refine Ok.toEx ?_; (repeat (first | (with_reducible exact Ok.rf _) | (with_reducible refine Ok.alloc ?_ _) | (with_reducible refine Ok.ex ?_ _) | (with_reducible refine Ok.drew ?_) | (with_reducible refine Ok.setCellI ?_ _ _ _) | (with_reducible refine Ok.exb ?_ _))))
          · have HR2 := hid (trChk_yes hv2)
            go_wp2_with (go_at_call 78; refine (doneN_yes nm _ _ _ (strK l n d) _ ?_ hln.out hs hn hv2).mono ?_; (· infer_instance); rintro e w' ⟨rfl, k8, rfl⟩)
            refine bodyPost_ret (v := _) (by first | (simp [results, Try.results33, go_sem, v0, v1]; done) | (simp [results, Try.results33, go_sem, v0, v1]; rfl)) rfl ?_
            rw [HR.out, HR2.out]
            refine trPostN_ok hln.out (by rfl) ?_ (by infer_instance) hgl
            (refine Ok.toEx ?_; (repeat (first | (with_reducible exact Ok.rf _) | (with_reducible refine Ok.alloc ?_ _) | (with_reducible refine Ok.ex ?_ _) | (with_reducible refine Ok.drew ?_) | (with_reducible refine Ok.setCellI ?_ _ _ _) | (with_reducible refine Ok.exb ?_ _))))
theorem iStretch_any (nm : ByteArray) (A : Option Addr) (c : Nat) (l : List Ky) (n d : Int) (w : World) [hl : Rd 2 kC w A l] (hs : nm.size ≤ maxLen) (hn : l.length ≤ 1048576) :
    Calls Try.prog 34 #[.agg #[.string nm, .slice A l.length c], .int .i64 n, .int .i64 d] w (TrPost (strR nm l n d) w) := by
  cases hv : vT nm l
  · have HR := hid (strR_inv (n := n) (d := d) hv)
    go_enter Try.func34, Try.ntmps34
    go_wp2_with ((go_at_call 23; (with_reducible refine (iVT_any nm _ _ l _ hs hn).mono ?_); rw [hv]; rintro e w' ⟨rfl, k, rfl⟩))
    (refine bodyPost_ret (v := _) (by first | (simp [results, Try.results34, go_sem]; done) | (simp [results, Try.results34, go_sem]; rfl)) rfl ?_; rw [HR.out]; refine trPost_err (by rfl) ?_; (refine Ok.toEx ?_; (repeat (first | (with_reducible exact Ok.rf _) | (with_reducible refine Ok.alloc ?_ _) | (with_reducible refine Ok.ex ?_ _) | (with_reducible refine Ok.drew ?_) | (with_reducible refine Ok.setCellI ?_ _ _ _) | (with_reducible refine Ok.exb ?_ _)))))
  · by_cases hd : (1 ≤ n ∧ n ≤ 100) ∧ 1 ≤ d ∧ d ≤ 100
    rotate_left
    · have HR := hid (strR_rng hv hd)
      have hd' : (n < 1 ∨ 100 < n) ∨ ((1 ≤ n ∧ n ≤ 100) ∧ (d < 1 ∨ 100 < d)) := by omega
      clear hd
      rcases hd' with hd | ⟨⟨hn1, hn2⟩, hd⟩
      all_goals
        go_enter Try.func34, Try.ntmps34
        go_wp2_with (first | (go_at_call 23; (with_reducible refine (iVT_any nm _ _ l _ hs hn).mono ?_); rw [hv]; rintro e w' ⟨rfl, k, rfl⟩) | (go_at_call 66; first | (refine (wi_yes _ _ _ _ (by omega) (by omega)).mono ?_; rintro e w' ⟨rfl, rfl⟩) | (refine (wi_no _ _ _ _ (by omega)).mono ?_; rintro e w' ⟨rfl, rfl⟩)))
        (refine bodyPost_ret (v := _) (by first | (simp [results, Try.results34, go_sem]; done) | (simp [results, Try.results34, go_sem]; rfl)) rfl ?_; rw [HR.out]; refine trPost_err (by rfl) ?_; (refine Ok.toEx ?_; (repeat (first | (with_reducible exact Ok.rf _) | (with_reducible refine Ok.alloc ?_ _) | (with_reducible refine Ok.ex ?_ _) | (with_reducible refine Ok.drew ?_) | (with_reducible refine Ok.setCellI ?_ _ _ _) | (with_reducible refine Ok.exb ?_ _)))))
    · have HR := hid (strR_go hv hd)
      have hk := (vT_of hv).2.vk
      have hkn := hk.n
      have HK := hid hk
      clear hk
      obtain ⟨⟨hn1, hn2⟩, hd1, hd2⟩ := hd
      have hln := hid (strK_len l n d)
      go_enter Try.func34, Try.ntmps34
      go_wp2_with (first | (go_at_call 23; (with_reducible refine (iVT_any nm _ _ l _ hs hn).mono ?_); rw [hv]; rintro e w' ⟨rfl, k, rfl⟩) | (go_at_call 66; first | (refine (wi_yes _ _ _ _ (by omega) (by omega)).mono ?_; rintro e w' ⟨rfl, rfl⟩) | (refine (wi_no _ _ _ _ (by omega)).mono ?_; rintro e w' ⟨rfl, rfl⟩)) | (go_at_call 79; (with_reducible refine (clone_any _ _ l _ ?_ ?_).mono ?_); (· omega); (· omega); rintro e w' ⟨g, c9, rfl, hcc, k9, rfl, hw9, hg9⟩))
      haveI hkr := KR.of_wr hw9
      have hg1 := hw9.lt.h
      have hg2 := hg9.h
      have hg3 := (inferInstance : LtW (w.heap.size + 1) k.v).h
      have hg4 := (inferInstance : LtW (w.heap.size + 1) k9.v).h
      have z0 : k9.v.cell? ⟨w.heap.size, 0, none⟩ = some (.string nm) := by simp [go_sem]
      have z1 : k9.v.cell? ⟨w.heap.size, 1, none⟩ = some (.slice A l.length c) := by simp [go_sem]
      have y0 : k9.v.cell? ⟨w.heap.size + 1, 0, none⟩ = some (.string ⟨#[]⟩) := by simp [go_sem]
      have y1 : k9.v.cell? ⟨w.heap.size + 1, 1, none⟩ = some (.slice none 0 0) := by simp [go_sem]
      have yf : ∀ o, k9.v.frozen? ⟨w.heap.size + 1, o, none⟩ = false := by intro o; simp [go_sem]
      haveI l6 : LtW w.heap.size k9.v := by infer_instance
      haveI l4 : LtW (w.heap.size + 1) k9.v := by infer_instance
      have hkr0 : Hid (KR k9.v g (stF l n d 0) l.length) := hid (by rw [stF_zero]; infer_instance)
      have YF := hid yf
      clear yf
      haveI hgl : LeB w.heap.size g := ⟨by omega⟩
      haveI hgn : NeB (w.heap.size + 1) g := ⟨by omega⟩
      have hEx : ∃ j : Ex w, k9.v = j.v := by (refine Ok.toEx ?_; (repeat (first | (with_reducible exact Ok.rf _) | (with_reducible refine Ok.alloc ?_ _) | (with_reducible refine Ok.ex ?_ _) | (with_reducible refine Ok.drew ?_) | (with_reducible refine Ok.setCellI ?_ _ _ _) | (with_reducible refine Ok.exb ?_ _))))
      obtain ⟨j9, hj9⟩ := hEx
      rw [hj9] at z0 z1 y0 y1 YF l6 l4 hkr0 ⊢
      clear hj9 hw9
      go_loopw [28] (fun t wr => ∃ q : Nat, q ≤ l.length ∧ t = .int .i64 q ∧ ∃ j : Ex w, wr = j.v ∧ KR j.v g (stF l n d q) l.length ∧ But (some ⟨g, 0, none⟩) j9.v j.v) (fun t _ => l.length - (intOf t).toNat)
      case atStart => exact ⟨0, Nat.zero_le _, rfl, j9, rfl, hkr0.out, But.rf _ _⟩
      case round =>
        obtain ⟨q, hq, rfl, j0, rfl, hR, hB⟩ := hrel
        have HB := hid hB
        clear hB
        by_cases hlt : q < l.length
        · have hb1 := hR.lt
          obtain ⟨c0, f0⟩ := hR.c0 hlt
          rw [stF_at] at c0
          obtain ⟨⟨t1, t2⟩, -⟩ := HK.out.kg q hlt
          have HR' := hid hR
          have HS := hid (stF_step l n d q)
          clear hR
          obtain ⟨p1, p2, p3, p4⟩ := str_bd t1 t2 ⟨hn1, hn2⟩ ⟨hd1, hd2⟩
          generalize hx : kyG l q = x at *
          go_wp2
          go_roundw
          case rel => exact ⟨q + 1, by omega, by go_num, ex_and (fun W => KR W g (stF l n d (q + 1)) l.length ∧ But (some ⟨g, 0, none⟩) j9.v W) (by (refine Ok.toEx ?_; (repeat (first | (with_reducible exact Ok.rf _) | (with_reducible refine Ok.alloc ?_ _) | (with_reducible refine Ok.ex ?_ _) | (with_reducible refine Ok.drew ?_) | (with_reducible refine Ok.setCellI ?_ _ _ _) | (with_reducible refine Ok.exb ?_ _))))) ⟨by rw [← HS.out]; exact HR'.out.set q _, But.set HB.out _ _⟩⟩
          case measure => simp [intOf]; omega
        · obtain rfl : q = l.length := by omega
          have x0 := HB.out.cell (b := w.heap.size) (fun o => ne_blk (by omega)) 0 z0
          have x1 := HB.out.cell (b := w.heap.size) (fun o => ne_blk (by omega)) 1 z1
          have v0 := HB.out.cell (b := w.heap.size + 1) (fun o => ne_blk (by omega)) 0 y0
          have v1 := HB.out.cell (b := w.heap.size + 1) (fun o => ne_blk (by omega)) 1 y1
          have f0 := (HB.out.frozen (b := w.heap.size + 1) (fun o => ne_blk (by omega)) 0).trans (YF.out 0)
          have f1 := (HB.out.frozen (b := w.heap.size + 1) (fun o => ne_blk (by omega)) 1).trans (YF.out 1)
          haveI l4' : LtW (w.heap.size + 1) j0.v := HB.out.lt
          haveI l6' : LtW w.heap.size j0.v := HB.out.lt
          haveI hwr := hR.wr (by omega) (strK_len l n d) (fun k hk => stF_end hk)
          clear hR
          cases hv2 : vT nm (strK l n d)
          · have HR2 := hid (trChk_no hv2)
            go_wp2_with (go_at_call 80; refine (chkN_no nm _ _ _ (strK l n d) _ ?_ hln.out hs hn hv2).mono ?_; (· infer_instance); rintro e w' ⟨rfl, k8, rfl⟩)
            refine bodyPost_ret (v := _) (by first | (simp [results, Try.results34, go_sem, v0, v1]; done) | (simp [results, Try.results34, go_sem, v0, v1]; rfl)) rfl ?_
            rw [HR.out, HR2.out]
            refine trPost_err (by rfl) ?_
            (refine Ok.toEx ?_; (repeat (first | (with_reducible exact Ok.rf _) | (with_reducible refine Ok.alloc ?_ _) | (with_reducible refine Ok.ex ?_ _) | (with_reducible refine Ok.drew ?_) | (with_reducible refine Ok.setCellI ?_ _ _ _) | (with_reducible refine Ok.exb ?_ _))))
          · have HR2 := hid (trChk_yes hv2)
            go_wp2_with (go_at_call 80; refine (chkN_yes nm _ _ _ (strK l n d) _ ?_ hln.out hs hn hv2).mono ?_; (· infer_instance); rintro e w' ⟨rfl, k8, rfl⟩)
            refine bodyPost_ret (v := _) (by first | (simp [results, Try.results34, go_sem, v0, v1]; done) | (simp [results, Try.results34, go_sem, v0, v1]; rfl)) rfl ?_
            rw [HR.out, HR2.out]
            refine trPostN_ok hln.out (by rfl) ?_ (by infer_instance) hgl
            (refine Ok.toEx ?_; (repeat (first | (with_reducible exact Ok.rf _) | (with_reducible refine Ok.alloc ?_ _) | (with_reducible refine Ok.ex ?_ _) | (with_reducible refine Ok.drew ?_) | (with_reducible refine Ok.setCellI ?_ _ _ _) | (with_reducible refine Ok.exb ?_ _))))
end
end Go.Proofs.Ytamajnhbfdakfaa
