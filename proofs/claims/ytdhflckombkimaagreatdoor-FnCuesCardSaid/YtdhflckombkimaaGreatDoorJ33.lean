/-
  The law of levels. Conditions: those typed at each theorem.
  The draws of cues, telling how long a name is and how late a cue. Conditions: those typed at each theorem.
-/
import Derived.Test.YtdhflckombkimaaGreatDoorJ32
import Derived.Test.YtdhflckombkimaaGreatDoorJ28
import Derived.Laws.Small
namespace Go.Proofs.YtdhflckombkimaaGreatDoor
open Go.RowKit
/-- does cue k drive nm? -/
def mtB (l : List Cu) (nm : ByteArray) (k : Nat) : Bool := (cuG l k).tg.toList == nm.toList
/-- the value of the last cue of nm among the first k -/
def lsV (l : List Cu) (nm : ByteArray) : Nat → Int
  | 0 => 0
  | k + 1 => if mtB l nm k = true then (cuG l k).v else lsV l nm k
/-- the time of the first -/
def frT (l : List Cu) (nm : ByteArray) : Nat → Int
  | 0 => 7200000
  | k + 1 => if mtB l nm k = true then min (frT l nm k) (cuG l k).t else frT l nm k
theorem endG_none {l : List Cu} {nm : ByteArray} {time : Int} : ∀ (n j : Nat), (∀ i, j ≤ i → i < j + n → mtB l nm i = false) → endG l nm time n j = time
  | 0, _, _ => rfl
  | n + 1, j, h => by
    have h1 := h j (Nat.le_refl _) (by omega)
    unfold mtB at h1
    unfold endG
    rw [if_neg (by rw [h1]; simp)]
    exact endG_none n (j + 1) fun i h2 h3 => h i (by omega) (by omega)
theorem lv_last {l : List Cu} (hv : vCs l = true) (nm : ByteArray) : ∀ k, k ≤ l.length → (∀ i, k ≤ i → i < l.length → mtB l nm i = false) → lvP l nm 7200000 k = lsV l nm k
  | 0, _, _ => rfl
  | k + 1, hk, h => by
    obtain ⟨h1, h2, h3⟩ := vC_num ((vCs_of hv).2 k (by omega)).1
    cases hm : mtB l nm k
    · rw [lvP_skip (fun hc => by have := hc.1; unfold mtB at hm; rw [hm] at this; cases this)]
      rw [lv_last hv nm k (by omega) fun i h4 h5 => by
        rcases Nat.lt_or_ge k i with h6 | h6
        · exact h i (by omega) h5
        · obtain rfl : i = k := by omega
          exact hm]
      show _ = if _ then _ else _
      rw [if_neg (by rw [hm]; simp)]
    · have he : endE l nm 7200000 k = 7200000 := endG_none _ _ fun i h4 h5 => h i (by omega) (by omega)
      rw [lvP_set hm (by omega) (fun hc => by have := hc.2; rw [he] at this; omega)]
      show _ = if _ then _ else _
      rw [if_pos hm]
theorem lv_zero {l : List Cu} {nm : ByteArray} {time : Int} : ∀ k, (∀ i, i < k → mtB l nm i = true → time < (cuG l i).t) → lvP l nm time k = 0
  | 0, _ => rfl
  | k + 1, h => by
    rw [lvP_skip (fun hc => by have := h k (by omega) hc.1; omega)]
    exact lv_zero k fun i hi hm => h i (by omega) hm
theorem frT_le {l : List Cu} {nm : ByteArray} : ∀ k i, i < k → mtB l nm i = true → frT l nm k ≤ (cuG l i).t
  | 0, i, h, _ => absurd h (by omega)
  | k + 1, i, h, hm => by
    unfold frT
    rcases Nat.lt_or_ge i k with h1 | h1
    · have := frT_le k i h1 hm
      split
      · exact Int.le_trans (Int.min_le_left _ _) this
      · exact this
    · obtain rfl : i = k := by omega
      rw [if_pos hm]
      exact Int.min_le_right _ _
theorem frT_bd {l : List Cu} (hv : vCs l = true) (nm : ByteArray) : ∀ k, k ≤ l.length → 0 ≤ frT l nm k ∧ frT l nm k ≤ 7200000
  | 0, _ => by simp [frT]
  | k + 1, hk => by
    have h1 := frT_bd hv nm k (by omega)
    have h2 := (vC_num ((vCs_of hv).2 k (by omega)).1).1
    unfold frT
    split <;> omega
theorem la_in {l : List Cu} (hv : vCs l = true) (nm : ByteArray) {t : Int} (h0 : 0 ≤ t) (h1 : t ≤ 7200000) : laV l nm t = lvP l nm t l.length ∧ laE l t = 0 := by
  unfold laV laE
  rw [if_pos hv, if_pos ⟨h0, h1⟩, if_pos hv, if_pos ⟨h0, h1⟩]
  exact ⟨rfl, rfl⟩
/-- a number below n -/
def RInt (n : Int) (w : World) (e : Ending) (w' : World) : Prop := ∃ x : Int, (0 ≤ x ∧ x < n) ∧ e = .returned (.int .i64 x) ∧ w = w'
section
set_option maxHeartbeats 3200000
set_option maxRecDepth 20000
theorem at8_any (A : Option Addr) (c : Nat) (l : List Int) (k n : Int) (w : World) [hl : Rd 1 byC w A l] [hb : By l] (h0 : 0 ≤ k) (h1 : 1 < n) (h2 : n ≤ 1000) (hn : l.length ≤ 1048576) :
    Calls Tryz.prog 7 #[.slice A l.length c, .int .i64 k, .int .i64 n] w (RInt n w) := by
  by_cases hk : k < (l.length : Int)
  · obtain ⟨i, rfl⟩ := Int.eq_ofNat_of_zero_le h0
    have hi : i < l.length := by omega
    obtain ⟨b, o, rfl, hbw, hc⟩ := hl.at_ (by omega)
    have c0 := hc i hi 0 _ rfl
    rw [Nat.mul_one, Nat.add_zero] at c0
    have hx := hb.h _ (List.getElem_mem hi)
    clear hc
    generalize l[i] = x at *
    obtain ⟨hx1, hx2⟩ := hx
    have e1 : ¬ n ≤ 1 := by omega
    have e2 : ¬ (l.length : Int) ≤ (i : Int) := by omega
    go_enter Tryz.func7, Tryz.ntmps7
    go_wp2
    go_ret
    exact ⟨x % n, ⟨Int.emod_nonneg _ (by omega), Int.emod_lt_of_pos _ (by omega)⟩, by first | rfl | (simp; done), rfl⟩
  · have e1 : ¬ n ≤ 1 := by omega
    have e2 : (l.length : Int) ≤ k := by omega
    go_enter Tryz.func7, Tryz.ntmps7
    go_wp2
    go_ret
    exact ⟨0, ⟨by omega, by omega⟩, by first | rfl | (simp; done), rfl⟩
theorem wide8_any (A : Option Addr) (c : Nat) (l : List Int) (k n : Int) (w : World) [hl : Rd 1 byC w A l] [hb : By l] (h0 : 0 ≤ k) (hk2 : k ≤ 1000) (h1 : 1 < n) (h2 : n ≤ 1000) (hn : l.length ≤ 1048576) :
    Calls Tryz.prog 6 #[.slice A l.length c, .int .i64 k, .int .i64 n] w (RInt n w) := by
  go_enter Tryz.func6, Tryz.ntmps6
  go_wp2_with ((go_at_call 7; go_loud (refine (at8_any _ _ l _ _ _ ?_ ?_ ?_ ?_).mono ?_; (· omega); (· omega); (· omega); (· omega); rintro e w' ⟨x, ⟨hx1, hx2⟩, rfl, rfl⟩)))
  go_ret
  exact ⟨_, ⟨Int.emod_nonneg _ (by omega), Int.emod_lt_of_pos _ (by omega)⟩, rfl, rfl⟩
end
end Go.Proofs.YtdhflckombkimaaGreatDoor
namespace Go.Proofs.YtdhflckombkimaaGreatDoor
open Go.RowKit
/-- a drawn cue: a name of one byte, early -/
def smC (x : Cu) : Prop := x.id.size = 1 ∧ (0 ≤ x.t ∧ x.t ≤ 6000) ∧ x.ln ≤ 1200
section
set_option maxHeartbeats 3200000
set_option maxRecDepth 20000
/-- is v a text of one byte? -/
def okS1 : Value → Bool
  | .string s => decide (s.size = 1)
  | _ => false
theorem okS1_of {v : Value} (h : okS1 v = true) : ∃ s, v = .string s ∧ s.size = 1 := by
  cases v <;> simp [okS1] at h
  exact ⟨_, rfl, h⟩
theorem text_one (b : Nat) {n : Nat} (w0 : World) (e : TypeId) (cs : Array Value) (g m c : Nat) [hs : Src (w0.alloc (.cells cs e)) b n] (hg : g = w0.heap.size) (hb : b < w0.heap.size) (hn : n ≤ 100000000) (h0 : 0 < m) (h1 : m ≤ 1000) (hm : m = cs.size) (hz : cs.toList.all okS1 = true) :
    Calls Tryz.prog 52 #[.pointer (some ⟨b, 0, none⟩), .slice (some ⟨g, 0, none⟩) m c] (w0.alloc (.cells cs e)) fun e' w' => ∃ s : ByteArray, s.size = 1 ∧ e' = .returned (.string s) ∧ ∃ k : Dr b (n + 2) (w0.alloc (.cells cs e)), w' = k.v := by
  subst hg
  haveI : NeB w0.heap.size b := ⟨by omega⟩
  have HC : Hid (∀ i, i < m → ∃ s : ByteArray, (w0.alloc (.cells cs e)).cell? ⟨w0.heap.size, i, none⟩ = some (.string s) ∧ s.size = 1) := hid fun i hi => by
    have hi' : i < cs.size := by omega
    obtain ⟨s, h2, h3⟩ := okS1_of (List.all_eq_true.1 hz cs[i] (by simp))
    refine ⟨s, ?_, h3⟩
    rw [← h2]
    simp [go_sem, hi']
  clear hz hm
  generalize hW : w0.alloc (.cells cs e) = W at *
  haveI : LtW w0.heap.size W := by rw [← hW]; infer_instance
  generalize w0.heap.size = g at *
  clear hW
  go_enter Tryz.func52, Tryz.ntmps52
  go_wp2_with (go_at_call 34; go_loud (refine (pick_any b _ _ ?_ ?_).mono ?_); (· omega); (· omega); rintro e w' ⟨x, ⟨hx1, hx2⟩, rfl, k, rfl⟩; obtain ⟨i, rfl⟩ := Int.eq_ofNat_of_zero_le hx1; have hi : i < m := (by omega); obtain ⟨s, hci, hs1⟩ := HC.out i hi; have hii : (i : Int) < (m : Int) := (by omega); have hi0 : (0 : Int) ≤ (i : Int) := (by omega))
  go_ret
  exact ⟨s, hs1, rfl, (DrK.fin (by (repeat (first | (with_reducible exact DrK.rf _ _) | (with_reducible refine DrK.alloc ?_ _) | (with_reducible refine DrK.dr ?_ _) | (with_reducible refine DrK.ex ?_ _) | (with_reducible refine DrK.drew ?_) | (with_reducible refine DrK.set ?_ _ _ _)))) (by omega))⟩
theorem drawOneS_any (b : Nat) {n : Nat} (w : World) [hs : Src w b n] (hn : n ≤ 10000000) :
    Calls Tryz.prog 36 #[.pointer (some ⟨b, 0, none⟩)] w fun e w' => ∃ x : Cu, (x.ok ∧ smC x) ∧ e = .returned (.agg #[.string x.id, .int .i64 x.t, .int .i64 x.ln, .string x.tg, .int .i64 x.act, .int .i64 x.v]) ∧ ∃ k : Dr b (n + 12) w, w' = k.v := by
  go_enter Tryz.func36, Tryz.ntmps36
  go_wp2_with (first | (go_at_call 52; go_loud (refine (text_one b _ _ _ _ _ _ ?_ ?_ ?_ ?_ ?_ ?_ ?_).mono ?_); (· simp); (· exact (inferInstance : LtW b _).h); (· omega); (· omega); (· omega); (· rfl); (· rfl); rintro e w' ⟨s, hs, rfl, k, rfl⟩) | (go_at_call 52; go_loud (refine (text_lit b _ _ _ _ _ _ ?_ ?_ ?_ ?_ ?_ ?_ ?_).mono ?_); (· simp); (· exact (inferInstance : LtW b _).h); (· omega); (· omega); (· omega); (· rfl); (· rfl); rintro e w' ⟨s, hs, rfl, k, rfl⟩) | (go_at_call 34; go_loud (refine (pick_any b _ _ ?_ ?_).mono ?_); (· omega); (· omega); rintro e w' ⟨x, ⟨hx1, hx2⟩, rfl, k, rfl⟩))
  all_goals
    refine bodyPost_ret (v := _) (by simp [results, Tryz.results36, go_sem]; rfl) rfl ?_
    refine ⟨⟨_, _, _, _, _, _⟩, ?_, rfl, (DrK.fin (by (repeat (first | (with_reducible exact DrK.rf _ _) | (with_reducible refine DrK.alloc ?_ _) | (with_reducible refine DrK.dr ?_ _) | (with_reducible refine DrK.ex ?_ _) | (with_reducible refine DrK.drew ?_) | (with_reducible refine DrK.set ?_ _ _ _)))) (by omega))⟩
    unfold Cu.ok bI smC
    dsimp only
    omega
theorem drawS_any (b : Nat) {n : Nat} (w : World) [hs : Src w b n] (hn : n ≤ 1000000) :
    Calls Tryz.prog 20 #[.pointer (some ⟨b, 0, none⟩)] w fun e w' => ∃ (A : Option Addr) (c : Nat) (l : List Cu), vCs l = true ∧ COks l ∧ (l.length ≤ 8 ∧ ∀ x ∈ l, smC x) ∧ l.length ≤ c ∧ PlA A c ∧ GtA b A ∧ e = .returned (.slice A l.length c) ∧ ∃ k : Dr b (n + 200) w, w' = k.v ∧ Rd 6 cC k.v A l := by
  have HS := hid hs
  go_enter Tryz.func20, Tryz.ntmps20
  go_wp2_with ((go_at_call 34; go_loud (refine (pick_any b _ _ ?_ ?_).mono ?_); (· omega); (· omega); rintro e w' ⟨x, ⟨hx1, hx2⟩, rfl, k, rfl⟩))
  have hp0 : x < 9 := by omega
  have hbw : b < w.heap.size := HS.out.lt
  go_loopw [3, 4] (fun v t wr => ∃ (q : Nat) (A : Option Addr) (c : Nat) (l : List Cu) (n' : Nat), q ≤ 8 ∧ t = .int .i64 q ∧ v = .slice A l.length c ∧ vCs l = true ∧ COks l ∧ Hid (l.length + q ≤ 8 ∧ ∀ x ∈ l, smC x) ∧ l.length ≤ c ∧ PlA A c ∧ GtA b A ∧ n' + 12 * q ≤ n + 100 ∧ ∃ j : Dr b n' w, wr = j.v ∧ Rd 6 cC j.v A l) (fun _ t _ => (intOf t).toNat)
  case atStart =>
    obtain ⟨q, rfl⟩ := Int.eq_ofNat_of_zero_le hx1
    exact ⟨q, some ⟨w.heap.size, 0, none⟩, 0, [], n + 2, by omega, rfl, rfl, (vCs_mk (by simp) (fun i hi => absurd hi (by simp))), ⟨fun _ h => by simp at h⟩, hid ⟨by simp; omega, fun _ h => by simp at h⟩, Nat.le_refl _, inferInstance, ⟨fun g o e => by cases e; exact hbw⟩, by omega, by
      have h : ∃ j : Dr b (n + 2) w, k.v = j.v := (DrK.fin (by (repeat (first | (with_reducible exact DrK.rf _ _) | (with_reducible refine DrK.alloc ?_ _) | (with_reducible refine DrK.dr ?_ _) | (with_reducible refine DrK.ex ?_ _) | (with_reducible refine DrK.drew ?_) | (with_reducible refine DrK.set ?_ _ _ _)))) (by omega))
      obtain ⟨j, hj⟩ := h
      exact ⟨j, hj, Rd.nil⟩⟩
  case round =>
    obtain ⟨q, A, c, l, n', hq, rfl, rfl, hv, hk, HM, hcap, hp, hg, hn', j0, rfl, hl⟩ := hrel
    have h32 := (vCs_of hv).1
    by_cases h0 : 0 < q
    · obtain ⟨p, rfl⟩ : ∃ p, q = p + 1 := ⟨q - 1, by omega⟩
      have h0i : (0 : Int) < ((p + 1 : Nat) : Int) := by omega
      have HV := hid hv
      clear hv
      go_wp2_with (first | (go_at_call 36; go_loud (refine (drawOneS_any b _ ?_).mono ?_); (· omega); rintro e w' ⟨x, ⟨hx, hsm⟩, rfl, k, rfl⟩; have HSM := hid hsm; clear hsm) | (go_at_call 35; go_loud (refine (sAddCue_any (hk := hk) (hl := ?_) (hp := hp) A c l x _ ?_ ?_ ?_ ?_ rfl rfl).mono ?_); (· infer_instance); (· exact hcap); (· omega); (· exact hx.1); (· exact hx.2.1); rintro e w' ⟨A', c', rfl, k2, rfl, ho, hf, hc'⟩))
      · rename_i hE
        have hE : adE l x = 0 := by simpa using hE
        obtain ⟨hP, hV2⟩ := ad_vCs hE
        have hk2 : COks (adV l x) := by rw [hP]; exact putL_oks hx
        obtain ⟨g, rfl, hw⟩ := ho.own (by rw [hP, putL_len]; omega)
        have hgb : b < g := Nat.lt_of_lt_of_le k.src.lt (hf.h g 0 none rfl)
        refine ⟨⟨p, some ⟨g, 0, none⟩, c', adV l x, n' + 12, by omega, rfl, rfl, hV2, hk2, hid ⟨by rw [hP, putL_len]; have := HM.out.1; omega, fun y hy => by
          rw [hP] at hy
          rcases putL_mem hy with rfl | hy
          · exact HSM.out
          · exact HM.out.2 y hy⟩, hc', inferInstance, ⟨fun g' o e => by cases e; exact hgb⟩, by omega, DrK.fin2 (p := fun W => Rd 6 cC W (some ⟨g, 0, none⟩) (adV l x)) (DrK.ex (DrK.dr (b := b) (a := w) ⟨j0.lo, j0.size, j0.keep⟩ k) k2) (Nat.le_refl _) inferInstance⟩, ?_⟩
        simp [intOf]
      · refine ⟨⟨p, A, c, l, n' + 12, by omega, rfl, rfl, HV.out, hk, hid ⟨by have := HM.out.1; omega, HM.out.2⟩, hcap, hp, hg, by omega, DrK.fin2 (p := fun W => Rd 6 cC W A l) (DrK.ex (DrK.dr (b := b) (a := w) ⟨j0.lo, j0.size, j0.keep⟩ k) k2) (Nat.le_refl _) inferInstance⟩, ?_⟩
        simp [intOf]
    · obtain rfl : q = 0 := by omega
      go_wp2
      go_ret
      exact ⟨A, c, l, hv, hk, ⟨by have := HM.out.1; omega, HM.out.2⟩, hcap, hp, hg, rfl, DrK.fin2 (m := n + 200) (p := fun W => Rd 6 cC W A l) ⟨j0.lo, j0.size, j0.keep⟩ (by omega) hl⟩
theorem r8cuesS_any (A : Option Addr) (c : Nat) (l : List Int) (w : World) [hl : Rd 1 byC w A l] [hb : By l] :
    Calls Tryz.prog 5 #[.slice A l.length c] w fun e w' => ∃ (A' : Option Addr) (c' : Nat) (m : List Cu), vCs m = true ∧ COks m ∧ (m.length ≤ 8 ∧ ∀ x ∈ m, smC x) ∧ m.length ≤ c' ∧ PlA A' c' ∧ e = .returned (.slice A' m.length c') ∧ ∃ k : Ex w, w' = k.v ∧ Rd 6 cC k.v A' m := by
  go_enter Tryz.func5, Tryz.ntmps5
  go_wp2_with (first | (go_at_call 19; go_loud (refine (from_any _ _ l _ hb.h).mono ?_; rintro e w' ⟨rfl, k, rfl, hs⟩)) | (go_at_call 20; go_loud (refine (drawS_any w.heap.size _ ?_).mono ?_; (· omega); rintro e w' ⟨A', c', m, hv, hk, hsm, hcap, hp, hg, rfl, k2, rfl, hr⟩)))
  go_ret
  exact ⟨A', c', m, hv, hk, hsm, hcap, hp, rfl, ⟨k2.v, k.h.trans (k2.lo.mono (Nat.le_refl _))⟩, rfl, hr⟩
theorem wide8b_any (A : Option Addr) (c : Nat) (l : List Int) (k n : Int) (w : World) [hl : Rd 1 byC w A l] [hb : By l] (h0 : 0 ≤ k) (hk2 : k ≤ 1000) (h1 : 1 < n) (h2 : n ≤ 100000) (hn : l.length ≤ 1048576) :
    Calls Tryz.prog 6 #[.slice A l.length c, .int .i64 k, .int .i64 n] w (RInt n w) := by
  go_enter Tryz.func6, Tryz.ntmps6
  go_wp2_with ((go_at_call 7; go_loud (refine (at8_any _ _ l _ _ _ ?_ ?_ ?_ ?_).mono ?_; (· omega); (· omega); (· omega); (· omega); rintro e w' ⟨x, ⟨hx1, hx2⟩, rfl, rfl⟩)))
  go_ret
  exact ⟨_, ⟨Int.emod_nonneg _ (by omega), Int.emod_lt_of_pos _ (by omega)⟩, rfl, rfl⟩
/-- the same cues twice -/
theorem sameC_any (A B : Option Addr) (c d : Nat) (l : List Cu) (w : World) [hl : Rd 6 cC w A l] [hm : Rd 6 cC w B l] (hn : l.length ≤ 1048576) :
    Calls Tryz.prog 31 #[.slice A l.length c, .slice B l.length d] w fun e w' => e = .returned (.bool true) ∧ ∃ k : Ex w, w' = k.v := by
  have HA := hid hl.cu
  have HB := hid hm.cu
  go_enter Tryz.func31, Tryz.ntmps31
  go_wp2
  go_loopw [5] (fun t wr => ∃ q : Nat, q ≤ l.length ∧ t = .int .i64 q ∧ ∃ j : Ex w, wr = j.v) (fun t _ => l.length - (intOf t).toNat)
  case atStart => exact ⟨0, Nat.zero_le _, rfl, Ex.rf _, rfl⟩
  case round =>
    obtain ⟨q, hq, rfl, j0, rfl⟩ := hrel
    by_cases hlt : q < l.length
    · obtain ⟨bx, ox, rfl, hbx, hcx⟩ := HA.out (by omega)
      obtain ⟨by', oy, rfl, hby, hcy⟩ := HB.out (by omega)
      obtain ⟨c0, c1, c2, c3, c4, c5⟩ := hcx q hlt
      obtain ⟨d0, d1, d2, d3, d4, d5⟩ := hcy q hlt
      clear hcx hcy
      generalize cuG l q = x at *
      have hqi : (q : Int) < (l.length : Int) := by omega
      have hq0 : (0 : Int) ≤ (q : Int) := by omega
      go_wp2_with (fail)
      (refine wp_region_ex (by kernel_rfl) (by kernel_rfl) ?_; (repeat (go_big_quiet_step ((fail)))); refine wpQuiet_nil ?_; rintro _ ⟨k, rfl⟩)
      go_wp2_with (fail)
      go_roundw
      case rel => exact ⟨q + 1, by omega, by go_num, j0.tr k, rfl⟩
      case measure => simp [intOf]; omega
    · obtain rfl : q = l.length := by omega
      go_wp2
      go_ret
      exact ⟨rfl, by (refine Ok.toEx ?_; (repeat (first | (with_reducible exact Ok.rf _) | (with_reducible refine Ok.alloc ?_ _) | (with_reducible refine Ok.ex ?_ _) | (with_reducible refine Ok.drew ?_) | (with_reducible refine Ok.setCellI ?_ _ _ _) | (with_reducible refine Ok.exb ?_ _))))⟩
theorem sameCs_any (A B : Option Addr) (c d : Nat) (l : List Cu) (w : World) [hl : Rd 6 cC w A l] [hm : Rd 6 cC w B l] (hn : l.length ≤ 1048576) :
    Calls Tryz.prog 14 #[.slice A l.length c, .slice B l.length d] w fun e w' => e = .returned (.bool true) ∧ ∃ k : Ex w, w' = k.v := by
  go_enter Tryz.func14, Tryz.ntmps14
  go_wp2_with ((go_at_call 31; refine (sameC_any A B c d l _ hn).mono ?_; rintro e w' ⟨rfl, k, rfl⟩))
  (go_ret; refine ⟨by first | rfl | (simp; done), ?_⟩; (refine Ok.toEx ?_; (repeat (first | (with_reducible exact Ok.rf _) | (with_reducible refine Ok.alloc ?_ _) | (with_reducible refine Ok.ex ?_ _) | (with_reducible refine Ok.drew ?_) | (with_reducible refine Ok.setCellI ?_ _ _ _) | (with_reducible refine Ok.exb ?_ _)))))
end
end Go.Proofs.YtdhflckombkimaaGreatDoor
