/-
  Contracts of FlatScript, and its law. Conditions: those typed at each theorem.
-/
import Derived.Test.YtpapphhbogngcaaScUnr
import Derived.Test.YtpapphhbogngcaaAppZ
import Derived.Test.YtpapphhbogngcaaRdT
namespace Go.Proofs.Ytpapphhbogngcaa
open Go.RowKit
instance : Inhabited Ev := ⟨⟨0, ⟨#[]⟩⟩⟩
def evG (ev : List Ev) (k : Nat) : Ev := ev.getD k default
theorem evG_at {ev : List Ev} {k : Nat} (h : k < ev.length) : evG ev k = ev[k] := by simp [evG, List.getD, h]
/-- the time behind the first k events -/
def tP (ev : List Ev) : Nat → Int
  | 0 => 0
  | k + 1 => (evG ev k).t
def lnW (n : Int) : Ln := ⟨2, ⟨#[]⟩, n⟩
def lnF (c : ByteArray) : Ln := ⟨3, c, 0⟩
/-- the lines of the first k events -/
def flP (ev : List Ev) : Nat → List Ln
  | 0 => []
  | k + 1 => flP ev k ++ (if tP ev k < (evG ev k).t then [lnW ((evG ev k).t - tP ev k)] else []) ++ [lnF (evG ev k).c]
theorem flP_on {ev : List Ev} {k : Nat} (h : tP ev k < (evG ev k).t) : flP ev (k + 1) = flP ev k ++ [lnW ((evG ev k).t - tP ev k)] ++ [lnF (evG ev k).c] := by simp [flP, h]
theorem flP_off {ev : List Ev} {k : Nat} (h : ¬ tP ev k < (evG ev k).t) : flP ev (k + 1) = flP ev k ++ [lnF (evG ev k).c] := by simp [flP, h]
theorem flP_len (ev : List Ev) : ∀ k, (flP ev k).length ≤ 2 * k
  | 0 => by simp [flP]
  | k + 1 => by
    have := flP_len ev k
    unfold flP
    split <;> simp <;> omega
/-- the flat script -/
def flF (s : RS) : List Ln := flP s.ev s.ev.length ++ (if tP s.ev s.ev.length < s.tm then [lnW (s.tm - tP s.ev s.ev.length)] else [])
theorem flF_on {s : RS} (h : tP s.ev s.ev.length < s.tm) : flF s = flP s.ev s.ev.length ++ [lnW (s.tm - tP s.ev s.ev.length)] := by simp [flF, h]
theorem flF_off {s : RS} (h : ¬ tP s.ev s.ev.length < s.tm) : flF s = flP s.ev s.ev.length := by simp [flF, h]
/-- what FlatScript answers -/
def flatR (co : Int) (s : RS) : List Ln × Int := if co = 0 then (if 40 < (flF s).length then ([], 5) else (flF s, 0)) else ([], co)
theorem flatR_err {co : Int} {s : RS} (h : co ≠ 0) : flatR co s = ([], co) := by unfold flatR; rw [if_neg h]
theorem flatR_full {s : RS} (h : 40 < (flF s).length) : flatR 0 s = ([], 5) := by unfold flatR; rw [if_pos rfl, if_pos h]
theorem flatR_ok {s : RS} (h : ¬ 40 < (flF s).length) : flatR 0 s = (flF s, 0) := by unfold flatR; rw [if_pos rfl, if_neg h]
theorem flatR_len (co : Int) (s : RS) : (flatR co s).1.length ≤ 40 := by
  unfold flatR
  split
  · split
    · simp
    · simp; omega
  · simp
/-- the times of events rise -/
theorem tP_le {l : List Ln} {s : RS} (h : s.ok l) (k : Nat) (hk : k < s.ev.length) : tP s.ev k ≤ (evG s.ev k).t ∧ 0 ≤ tP s.ev k ∧ (evG s.ev k).t ≤ 7200000 := by
  have hg : ∀ i (hi : i < s.ev.length), evG s.ev i = s.ev[i] := fun i hi => evG_at hi
  have h1 := h.evs _ (List.getElem_mem hk)
  have h2 := h.tm
  rw [hg k hk]
  cases k with
  | zero => simp only [tP]; omega
  | succ k =>
    simp only [tP]
    rw [hg k (by omega)]
    have h3 := h.evs _ (List.getElem_mem (show k < s.ev.length by omega))
    have h4 := List.pairwise_iff_getElem.1 h.mono k (k + 1) (by omega) hk (by omega)
    omega
theorem tP_bd {l : List Ln} {s : RS} (h : s.ok l) : 0 ≤ tP s.ev s.ev.length ∧ tP s.ev s.ev.length ≤ s.tm := by
  have h2 := h.tm
  cases hn : s.ev.length with
  | zero => simp only [tP]; omega
  | succ k =>
    have hk : k < s.ev.length := by omega
    have h1 := h.evs _ (List.getElem_mem hk)
    simp only [tP]
    rw [evG_at hk]
    omega
theorem lnW_ok {n : Int} (h0 : 0 ≤ n) (h1 : n ≤ 7200000) : (lnW n).ok := ⟨by simp [lnW], by simp [lnW], by show (0 : Nat) ≤ _; omega, by show -9223372036854775808 ≤ n; omega, by show n ≤ 9223372036854775807; omega⟩
theorem lnF_ok {c : ByteArray} (h : okN c) : (lnF c).ok := ⟨by simp [lnF], by simp [lnF], by have := h.1; show c.size ≤ _; omega, by simp [lnF], by simp [lnF]⟩
theorem flP_oks {l : List Ln} {s : RS} (h : s.ok l) : ∀ k, k ≤ s.ev.length → ∀ x ∈ flP s.ev k, x.ok
  | 0, _, x, hx => by simp [flP] at hx
  | k + 1, hk, x, hx => by
    have h1 := tP_le h k (by omega)
    have h2 := (h.evs _ (List.getElem_mem (show k < s.ev.length by omega))).2
    rw [← evG_at] at h2
    unfold flP at hx
    rcases List.mem_append.1 hx with hx | hx
    · rcases List.mem_append.1 hx with hx | hx
      · exact flP_oks h k (by omega) x hx
      · split at hx
        · obtain rfl := List.mem_singleton.1 hx
          exact lnW_ok (by omega) (by omega)
        · simp at hx
    · obtain rfl := List.mem_singleton.1 hx
      exact lnF_ok h2
theorem flatR_oks {l : List Ln} {s : RS} (h : s.ok l) (co : Int) : Oks (flatR co s).1 := ⟨fun x hx => by
  unfold flatR at hx
  split at hx
  · split at hx
    · simp at hx
    · unfold flF at hx
      have h1 := tP_bd h
      have h2 := h.tm
      rcases List.mem_append.1 hx with hx | hx
      · exact flP_oks h _ (Nat.le_refl _) x hx
      · split at hx
        · obtain rfl := List.mem_singleton.1 hx
          exact lnW_ok (by omega) (by omega)
        · simp at hx
  · simp at hx⟩
theorem evAt {w : World} {A : Option Addr} {l : List Ev} (h : Rd 2 evC w A l) : 0 < l.length → ∃ b o, A = some ⟨b, o, none⟩ ∧ LtW b w ∧ ∀ (k : Nat) (_ : k < l.length), w.cell? ⟨b, o + k * 2, none⟩ = some (.int .i64 (evG l k).t) ∧ w.cell? ⟨b, o + k * 2 + 1, none⟩ = some (.string (evG l k).c) := fun h0 => by
  obtain ⟨b, o, e, hb, hc⟩ := h.at_ h0
  refine ⟨b, o, e, hb, fun k hk => ?_⟩
  rw [evG_at hk]
  exact ⟨hc k hk 0 _ rfl, hc k hk 1 _ rfl⟩
section
set_option maxHeartbeats 3200000
/-- there is room for F -/
def FlC (c : Nat) (F : List Ln) : Prop := F.length ≤ c
theorem iFlatC_any (A : Option Addr) (c : Nat) (l : List Ln) (budget : Int) (w : World) [hl : Lns w A l] (hcap : l.length ≤ c) (hn : l.length ≤ 1048576) {co : Int} {s : RS} (ha : ansL l budget = (co, s)) (hs : s.ok l) :
    Calls Try.prog 17 #[.slice A l.length c, .int .i64 budget] w fun e w' => (∃ A' c', e = .returned (.tuple #[.slice A' (flatR co s).1.length c', .int .i64 (flatR co s).2]) ∧ FlC c' (flatR co s).1 ∧ ∃ k : Ex w, w' = k.v ∧ Ow 3 Ln.cells k.v A' (flatR co s).1 ∧ Fr w A') := by
  have HA := hid ha
  clear ha
  by_cases hc : co = 0
  rotate_left
  · have HN := hid (flatR_err (s := s) hc)
    have hcb : (co == 0) = false := by rw [beq_eq_false_iff_ne]; exact hc
    go_enter Try.func17, Try.ntmps17
    go_wp2_with (have ha := HA.out; (go_at_call 50; (refine (iRun_any _ _ l _ _ (by omega) (by omega)).mono ?_); rw [ha]; rintro e w' ⟨B, D, p, q, rfl, hBn, k, rfl, hO, hF, hR⟩); clear ha)
    go_ret2
    rw [HN.out]
    exact ⟨none, 0, by rfl, Nat.le_refl _, k.tr ⟨_, (Below.refl _ _).alloc (Nat.le_refl _) _⟩, rfl, Ow.nil, inferInstance⟩
  · subst hc
    have HS := hid hs
    have hev := hs.evn
    have hbd := tP_bd hs
    have htm := hs.tm
    obtain ⟨hbd1, hbd2⟩ := hbd
    obtain ⟨htm1, htm2⟩ := htm
    clear hs
    go_enter Try.func17, Try.ntmps17
    go_wp2_with (have ha := HA.out; (go_at_call 50; (refine (iRun_any _ _ l _ _ (by omega) (by omega)).mono ?_); rw [ha]; rintro e w' ⟨B, D, p, q, rfl, hBn, k, rfl, hO, hF, hR⟩); clear ha hF hR)
    obtain ⟨W1, hW1⟩ : ∃ W1, W1 = k.v.alloc (.cells #[.slice B s.ev.length p, .int .i64 s.tm, .int .i64 s.n, .slice D (rch l (0, s)).length q] 89) := ⟨_, rfl⟩
    have z1 : W1.cell? ⟨k.v.heap.size, 1, none⟩ = some (.int .i64 s.tm) := by rw [hW1]; simp [go_sem]
    haveI zl : LtW k.v.heap.size W1 := by rw [hW1]; infer_instance
    have HD := hid (evAt (w := W1) (A := B) (l := s.ev) (by rw [hW1]; haveI := hO; infer_instance))
    haveI hUp : Up w W1 := by rw [hW1]; infer_instance
    rw [← hW1]
    clear hO hW1
    have hrow0 := hid (row_nil W1 W1.heap.size 93 3 Ln.cells)
    go_loopw [8, 9, 24] (fun v t i wr => ∃ q : Nat, q ≤ s.ev.length ∧ i = .int .i64 q ∧ t = .int .i64 (tP s.ev q) ∧ ∃ j : Ex W1, wr = j.v ∧ j.v.ownsRow W1.heap.size 93 3 v (flP s.ev q).length ((flP s.ev q).flatMap Ln.cells)) (fun _ _ i _ => s.ev.length - (intOf i).toNat)
    case atStart => exact ⟨0, Nat.zero_le _, rfl, rfl, Ex.rf W1, rfl, hrow0.out⟩
    case round =>
      (obtain ⟨q9, hq, rfl, rfl, j0, rfl, hrow⟩ := hrel; have hln := flP_len s.ev q9; obtain ⟨A1, c1, rfl, -, -⟩ := own_of_row (w0 := W1) (f := Ln.cells) (fun _ => rfl) hrow; have HROW := hid hrow; haveI OW : OwR W1.heap.size 93 3 _ _ _ j0.v := ⟨hrow⟩; clear hrow)
      by_cases hlt : q9 < s.ev.length
      · obtain ⟨b, o, rfl, hbw, hc⟩ := HD.out (by omega)
        obtain ⟨c0, c1'⟩ := hc q9 hlt
        obtain ⟨e1, e2, e3⟩ := tP_le HS.out q9 hlt
        clear hc
        by_cases ht : tP s.ev q9 < (evG s.ev q9).t
        · have HE := hid (flP_on ht)
          have HT : Hid ((evG s.ev q9).t = tP s.ev (q9 + 1)) := hid rfl
          generalize tP s.ev q9 = t0 at *
          generalize evG s.ev q9 = x at *
          generalize flP s.ev q9 = G at *
          go_wp2_with (first | ((at_builtin; refine wpList_appZ Ln.cells _ rfl _ _ _ rfl W1.heap.size ?_ _ _ _ _ Try.underlying41 infoLine rfl (by omega) (fun _ => ⟨rfl, by simp [Ln.cells, Value.oneCell']⟩) (v1) (G ++ [lnW (x.t - t0)]) rfl ?_ (lnF x.c) _ _ rfl (cellsB ?_) ?_ ?_ ?_; (· exact LeB.h); (· exact owR_h); (· simp); (· first | omega | (simp; omega)); (· first | omega | (simp; omega)); intro v2 k2 h2'; have OWx : OwR W1.heap.size 93 3 _ _ _ _ := ⟨(h2').own⟩); have y2 := h2'.cell (h1'.ne (b := j0.v.heap.size) (by simp; omega) (own_ne HROW.out (Nat.le_refl _))) 0 (u := .int .i64 x.t) (by simp [go_sem, y0]); have h2'' := hid h2'.own; clear h2') | ((at_builtin; refine wpList_appZ Ln.cells _ rfl _ _ _ rfl W1.heap.size ?_ _ _ _ _ Try.underlying41 infoLine rfl (by omega) (fun _ => ⟨rfl, by simp [Ln.cells, Value.oneCell']⟩) (.slice A1 G.length c1) (G) rfl ?_ (lnW (x.t - t0)) _ _ rfl (cellsB ?_) ?_ ?_ ?_; (· exact LeB.h); (· exact owR_h); (· simp); (· first | omega | (simp; omega)); (· first | omega | (simp; omega)); intro v1 k1 h1'; have OWx : OwR W1.heap.size 93 3 _ _ _ _ := ⟨(h1').own⟩); have y0 := h1'.cell (own_ne HROW.out (Nat.le_refl _)) 0 (u := .int .i64 x.t) (by simp [go_sem]); have y1 := h1'.cell (own_ne HROW.out (Nat.le_refl _)) 1 (u := .string x.c) (by simp [go_sem])))
          go_roundw
          case rel => exact ⟨q9 + 1, by omega, by go_num, by rw [HT.out], ex_and (fun W => W.ownsRow W1.heap.size _ 3 _ _ _) (by (refine Ok.toEx ?_; (repeat (first | (with_reducible exact Ok.rf _) | (with_reducible refine Ok.alloc ?_ _) | (with_reducible refine Ok.ex ?_ _) | (with_reducible refine Ok.drew ?_) | (with_reducible refine Ok.setCellI ?_ _ _ _) | (with_reducible refine Ok.exb ?_ _))))) (by rw [HE.out]; exact h2''.out)⟩
          case measure => simp [intOf]; omega
        · have HE := hid (flP_off ht)
          have HT : Hid ((evG s.ev q9).t = tP s.ev (q9 + 1)) := hid rfl
          generalize tP s.ev q9 = t0 at *
          generalize evG s.ev q9 = x at *
          generalize flP s.ev q9 = G at *
          go_wp2_with ((at_builtin; refine wpList_appZ Ln.cells _ rfl _ _ _ rfl W1.heap.size ?_ _ _ _ _ Try.underlying41 infoLine rfl (by omega) (fun _ => ⟨rfl, by simp [Ln.cells, Value.oneCell']⟩) (.slice A1 G.length c1) (G) rfl ?_ (lnF x.c) _ _ rfl (cellsB ?_) ?_ ?_ ?_; (· exact LeB.h); (· exact owR_h); (· simp); (· first | omega | (simp; omega)); (· first | omega | (simp; omega)); intro v1 k1 h1'; have OWx : OwR W1.heap.size 93 3 _ _ _ _ := ⟨(h1').own⟩); have y0 := h1'.cell (own_ne HROW.out (Nat.le_refl _)) 0 (u := .int .i64 x.t) (by simp [go_sem]); have h1'' := hid h1'.own; clear h1')
          go_roundw
          case rel => exact ⟨q9 + 1, by omega, by go_num, by rw [HT.out], ex_and (fun W => W.ownsRow W1.heap.size _ 3 _ _ _) (by (refine Ok.toEx ?_; (repeat (first | (with_reducible exact Ok.rf _) | (with_reducible refine Ok.alloc ?_ _) | (with_reducible refine Ok.ex ?_ _) | (with_reducible refine Ok.drew ?_) | (with_reducible refine Ok.setCellI ?_ _ _ _) | (with_reducible refine Ok.exb ?_ _))))) (by rw [HE.out]; exact h1''.out)⟩
          case measure => simp [intOf]; omega
      · obtain rfl : q9 = s.ev.length := by omega
        by_cases ht : tP s.ev s.ev.length < s.tm
        · have HE := hid (flF_on ht)
          have HL : Hid ((flF s).length = (flP s.ev s.ev.length).length + 1) := hid (by rw [HE.out]; simp)
          have HF0 := hid (fun h => flatR_full (s := s) h)
          have HF1 := hid (fun h => flatR_ok (s := s) h)
          generalize tP s.ev s.ev.length = t0 at *
          generalize flP s.ev s.ev.length = G at *
          go_wp2_with ((at_builtin; refine wpList_appZ Ln.cells _ rfl _ _ _ rfl W1.heap.size ?_ _ _ _ _ Try.underlying41 infoLine rfl (by omega) (fun _ => ⟨rfl, by simp [Ln.cells, Value.oneCell']⟩) (.slice A1 G.length c1) (G) rfl ?_ (lnW (s.tm - t0)) _ _ rfl (cellsB ?_) ?_ ?_ ?_; (· exact LeB.h); (· exact owR_h); (· simp); (· first | omega | (simp; omega)); (· first | omega | (simp; omega)); intro v1 k1 h1'; have OWx : OwR W1.heap.size 93 3 _ _ _ _ := ⟨(h1').own⟩); obtain ⟨A2, c2, rfl, hO2, hF2⟩ := own_of_row (w0 := W1) (f := Ln.cells) (fun _ => rfl) h1'.own; have hC2 := hid (own_cap h1'.own).1; have hO2 := hid hO2; clear h1' OWx)
          · have h40 : 40 < (flF s).length := by rw [HL.out]; omega
            go_ret2
            rw [HF0.out h40]
            first | refine ⟨none, 0, by first | rfl | fail, Nat.le_refl _, ex_and (fun W => Ow 3 Ln.cells W none [] ∧ Fr w none) (ex_up (w := w) (W1 := W1) ?_) ⟨Ow.nil, inferInstance⟩⟩ | refine ⟨none, 0, (by first | rfl | fail), Nat.le_refl _, ex_and (fun W => Ow 3 Ln.cells W none [] ∧ Fr w none) (ex_up (w := w) (W1 := W1) ?_) ⟨Ow.nil, inferInstance⟩⟩
            (refine Ok.toEx ?_; (repeat (first | (with_reducible exact Ok.rf _) | (with_reducible refine Ok.alloc ?_ _) | (with_reducible refine Ok.ex ?_ _) | (with_reducible refine Ok.drew ?_) | (with_reducible refine Ok.setCellI ?_ _ _ _) | (with_reducible refine Ok.exb ?_ _))))
          · have h40 : ¬ 40 < (flF s).length := by rw [HL.out]; omega
            go_ret2
            rw [HF1.out h40, HE.out]
            refine ⟨A2, c2, by simp, hC2.out, ex_and (fun W => Ow 3 Ln.cells W A2 (G ++ [lnW (s.tm - t0)]) ∧ Fr w A2) (ex_up (w := w) (W1 := W1) ?_) ⟨hO2.out, hF2.mono⟩⟩
            (refine Ok.toEx ?_; (repeat (first | (with_reducible exact Ok.rf _) | (with_reducible refine Ok.alloc ?_ _) | (with_reducible refine Ok.ex ?_ _) | (with_reducible refine Ok.drew ?_) | (with_reducible refine Ok.setCellI ?_ _ _ _) | (with_reducible refine Ok.exb ?_ _))))
        · have HE := hid (flF_off ht)
          have HL : Hid ((flF s).length = (flP s.ev s.ev.length).length) := hid (by rw [HE.out])
          have HF0 := hid (fun h => flatR_full (s := s) h)
          have HF1 := hid (fun h => flatR_ok (s := s) h)
          have hC2 := hid (own_cap HROW.out).1
          obtain ⟨A2, c2, he, hO2, hF2⟩ := own_of_row (w0 := W1) (f := Ln.cells) (fun _ => rfl) HROW.out
          cases he
          have hO2 := hid hO2
          generalize tP s.ev s.ev.length = t0 at *
          generalize flP s.ev s.ev.length = G at *
          go_wp2
          · have h40 : 40 < (flF s).length := by rw [HL.out]; omega
            go_ret2
            rw [HF0.out h40]
            first | refine ⟨none, 0, by first | rfl | fail, Nat.le_refl _, ex_and (fun W => Ow 3 Ln.cells W none [] ∧ Fr w none) (ex_up (w := w) (W1 := W1) ?_) ⟨Ow.nil, inferInstance⟩⟩ | refine ⟨none, 0, (by first | rfl | fail), Nat.le_refl _, ex_and (fun W => Ow 3 Ln.cells W none [] ∧ Fr w none) (ex_up (w := w) (W1 := W1) ?_) ⟨Ow.nil, inferInstance⟩⟩
            (refine Ok.toEx ?_; (repeat (first | (with_reducible exact Ok.rf _) | (with_reducible refine Ok.alloc ?_ _) | (with_reducible refine Ok.ex ?_ _) | (with_reducible refine Ok.drew ?_) | (with_reducible refine Ok.setCellI ?_ _ _ _) | (with_reducible refine Ok.exb ?_ _))))
          · have h40 : ¬ 40 < (flF s).length := by rw [HL.out]; omega
            go_ret2
            rw [HF1.out h40, HE.out]
            refine ⟨A1, c1, by rfl, hC2.out, ex_and (fun W => Ow 3 Ln.cells W A1 G ∧ Fr w A1) (ex_up (w := w) (W1 := W1) ?_) ⟨hO2.out, hF2.mono⟩⟩
            (refine Ok.toEx ?_; (repeat (first | (with_reducible exact Ok.rf _) | (with_reducible refine Ok.alloc ?_ _) | (with_reducible refine Ok.ex ?_ _) | (with_reducible refine Ok.drew ?_) | (with_reducible refine Ok.setCellI ?_ _ _ _) | (with_reducible refine Ok.exb ?_ _))))
theorem iFlat_any (A : Option Addr) (c : Nat) (l : List Ln) (budget : Int) (w : World) [hl : Lns w A l] (hcap : l.length ≤ c) (hn : l.length ≤ 1048576) {co : Int} {s : RS} (ha : ansL l budget = (co, s)) (hs : s.ok l) :
    Calls Try.prog 17 #[.slice A l.length c, .int .i64 budget] w fun e w' => ∃ A' c', e = .returned (.tuple #[.slice A' (flatR co s).1.length c', .int .i64 (flatR co s).2]) ∧ ∃ k : Ex w, w' = k.v ∧ Ow 3 Ln.cells k.v A' (flatR co s).1 ∧ Fr w A' :=
  (iFlatC_any A c l budget w hcap hn ha hs).mono fun e w' ⟨A', c', h1, _, h2⟩ => ⟨A', c', h1, h2⟩
end
end Go.Proofs.Ytpapphhbogngcaa
