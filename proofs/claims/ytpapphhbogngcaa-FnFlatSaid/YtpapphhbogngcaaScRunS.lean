/-
  Contract of the reference's l15Do. Conditions: those typed at each theorem.
-/
import Derived.Test.YtpapphhbogngcaaScRunI
import Derived.Test.YtpapphhbogngcaaScPut
namespace Go.Proofs.Ytpapphhbogngcaa
open Go.RowKit
/-- what l15Do leaves in memory where it ends well -/
structure SeenAt (l : List Ln) (s : RS) (w : World) (b : Nat) (B : Option Addr) (c : Nat) (D : Option Addr) (S : List Int) (q : Nat) (W : World) : Prop where
  lt : LtW b W
  ge : w.heap.size ≤ b
  c0 : W.cell? ⟨b, 0, none⟩ = some (.slice B s.ev.length c)
  c1 : W.cell? ⟨b, 1, none⟩ = some (.int .i64 s.tm)
  c2 : W.cell? ⟨b, 2, none⟩ = some (.int .i64 s.n)
  c3 : W.cell? ⟨b, 3, none⟩ = some (.slice D S.length q)
  hn : B = none → c = 0
  ev : Ow 2 evC W B s.ev
  rd : Rd 1 iC W D S
  len : S.length ≤ 1048576
  mem : ∀ i, i < l.length → ((i : Int) ∈ S ↔ s.seen i = true)
def RunPostS (l : List Ln) (a : Int × RS) (w : World) (e : Ending) (w' : World) : Prop :=
  ∃ b, e = .returned (.tuple #[.pointer (some ⟨b, 0, none⟩), .int .i64 a.1]) ∧ ∃ k : Ex w, w' = k.v ∧ (a.1 = 0 → ∃ B c D S q, SeenAt l a.2 w b B c D S q k.v)
theorem runPostS_err {l : List Ln} {c : Int} {s : RS} {w : World} {e : Ending} {w' : World} {b : Nat} (hc : c ≠ 0) (he : e = .returned (.tuple #[.pointer (some ⟨b, 0, none⟩), .int .i64 c])) (hw : ∃ k : Ex w, w' = k.v) :
    RunPostS l (c, s) w e w' := by
  obtain ⟨k, rfl⟩ := hw
  exact ⟨b, he, k, rfl, fun h => absurd h hc⟩
structure RunS (l : List Ln) (b6 bc B : Nat) (s : RS) (W : World) : Prop where
  sz : B ≤ W.heap.size
  r6 : ∃ v D S q, W.rowIs b6 98 4 (st4 v s.tm s.n (.slice D S.length q)) ∧ W.ownsRow B 50 2 v s.ev.length (s.ev.flatMap evC) ∧ RdB B 1 iC W D S ∧ S.length ≤ s.n ∧ ∀ i, i < l.length → ((i : Int) ∈ S ↔ s.seen i = true)
  rc : ∃ F, W.rowIs bc 2 l.length F ∧ ∀ i, i < l.length → F i = .int .i64 (s.cnt i)
theorem mem_upd {l : List Ln} {S : List Int} {seen : Nat → Bool} {pos : Nat} (h : ∀ i, i < l.length → ((i : Int) ∈ S ↔ seen i = true)) : ∀ i, i < l.length → ((i : Int) ∈ putL S pos ↔ updB seen pos i = true) := fun i hi => by
  rw [mem_putL]
  unfold updB
  by_cases e : i = pos
  · simp [e]
  · rw [if_neg e, ← h i hi]
    constructor
    · rintro (h1 | h1)
      · omega
      · exact h1
    · exact .inr
section
set_option maxHeartbeats 6400000
set_option maxRecDepth 20000
theorem sRun_inv (A : Option Addr) (c : Nat) (l : List Ln) (budget : Int) (w : World) [hl : Lns w A l] (hn : l.length ≤ 1048576) (hv : vL l = false) :
    Calls Try.prog 51 #[.slice A l.length c, .int .i64 budget] w (RunPostS l (1, RS.zero) w) := by
  go_enter Try.func51, Try.ntmps51
  go_wp2_with (go_at_call 68; refine (l15Ok_any _ _ _ _ (by omega)).mono ?_; rw [hv]; rintro e w' ⟨rfl, k, rfl⟩)
  go_ret2
  refine runPostS_err (by decide) (by rfl) ?_
  (refine Ok.toEx ?_; (repeat (first | (with_reducible exact Ok.rf _) | (with_reducible refine Ok.alloc ?_ _) | (with_reducible refine Ok.ex ?_ _) | (with_reducible refine Ok.drew ?_) | (with_reducible refine Ok.setCellI ?_ _ _ _) | (with_reducible refine Ok.exb ?_ _))))
theorem sRun_rng (A : Option Addr) (c : Nat) (l : List Ln) (budget : Int) (w : World) [hl : Lns w A l] (hn : l.length ≤ 1048576) (hv : vL l = true) (hb : budget < 1 ∨ 20000 < budget) :
    Calls Try.prog 51 #[.slice A l.length c, .int .i64 budget] w (RunPostS l (2, RS.zero) w) := by
  go_enter Try.func51, Try.ntmps51
  go_wp2_with (first | (go_at_call 68; refine (l15Ok_any _ _ _ _ (by omega)).mono ?_; rw [hv]; rintro e w' ⟨rfl, k, rfl⟩) | (go_at_call 78; first | (refine (in_yes _ _ _ _ (by omega) (by omega)).mono ?_; rintro e w' ⟨rfl, rfl⟩) | (refine (in_no _ _ _ _ (by omega)).mono ?_; rintro e w' ⟨rfl, rfl⟩)))
  go_ret2
  refine runPostS_err (by decide) (by rfl) ?_
  (refine Ok.toEx ?_; (repeat (first | (with_reducible exact Ok.rf _) | (with_reducible refine Ok.alloc ?_ _) | (with_reducible refine Ok.ex ?_ _) | (with_reducible refine Ok.drew ?_) | (with_reducible refine Ok.setCellI ?_ _ _ _) | (with_reducible refine Ok.exb ?_ _))))
theorem sRun_go (A : Option Addr) (c : Nat) (l : List Ln) (budget : Int) (w : World) [hl : Lns w A l] (hn : l.length ≤ 1048576) (hv : vL l = true) (hb1 : 1 ≤ budget) (hb2 : budget ≤ 20000) :
    Calls Try.prog 51 #[.slice A l.length c, .int .i64 budget] w (RunPostS l (runL l budget.toNat RS.zero) w) := by
  have hok := vL_of hv
  have HOK := hid hok
  have HA := hid hl.at
  have HL := hid hl
  have HO := hid hl.toOks.h
  clear hok
  go_enter Try.func51, Try.ntmps51
  go_wp2_with (first | (go_at_call 68; refine (l15Ok_any _ _ _ _ (by omega)).mono ?_; rw [hv]; rintro e w' ⟨rfl, k, rfl⟩) | (go_at_call 78; first | (refine (in_yes _ _ _ _ (by omega) (by omega)).mono ?_; rintro e w' ⟨rfl, rfl⟩) | (refine (in_no _ _ _ _ (by omega)).mono ?_; rintro e w' ⟨rfl, rfl⟩)) | (at_make; refine wpList_mk _ rfl _ _ _ rfl _ _ _ _ Try.underlying35 infoI64 l.length rfl rfl (by omega) (by omega) ?_; intro k2 hb2 hr2))
  have s1 : w.heap.size < k.v.heap.size := (inferInstance : LtW w.heap.size k.v).h
  have s3 : k.v.heap.size < k2.v.heap.size := hb2.h
  have hEx : ∃ j : Ex w, k2.v = j.v := by (refine Ok.toEx ?_; (repeat (first | (with_reducible exact Ok.rf _) | (with_reducible refine Ok.alloc ?_ _) | (with_reducible refine Ok.ex ?_ _) | (with_reducible refine Ok.drew ?_) | (with_reducible refine Ok.setCellI ?_ _ _ _) | (with_reducible refine Ok.exb ?_ _))))
  have hW : RunS l w.heap.size k.v.heap.size k2.v.heap.size RS.zero k2.v := by
    have hr2' := hr2.congr (g := fun _ => .int .i64 0) (fun i hi => made_one rfl (by omega))
    rw [Nat.mul_one] at hr2'
    refine ⟨Nat.le_refl _, ⟨.slice none 0 0, none, [], 0, (inferInstance : RowF _ _ _ k2.v w.heap.size).h.congr ?_, World.ownsRow_nil _ _ _ _, ⟨Rd.nil, fun _ _ _ h => by cases h⟩, by simp, fun i _ => by simp [RS.zero]⟩, ⟨fun _ => .int .i64 0, hr2', fun _ _ => rfl⟩⟩
    intro i hi
    match i, hi with
    | 0, _ => rfl
    | 1, _ => rfl
    | 2, _ => rfl
    | 3, _ => rfl
  have hEx := hid hEx
  have hW := hid hW
  have lc : LeB w.heap.size k.v.heap.size := ⟨by omega⟩
  have g4 : LtN w.heap.size k2.v.heap.size := ⟨by omega⟩
  have gc : LtN k.v.heap.size k2.v.heap.size := ⟨by omega⟩
  have n4c : NeB w.heap.size k.v.heap.size := ⟨by omega⟩
  have nc4 : NeB k.v.heap.size w.heap.size := ⟨by omega⟩
  have hBB : LeB w.heap.size k2.v.heap.size := ⟨by omega⟩
  clear s1 s3 hr2 hb2
  generalize k.v.heap.size = bc at *
  generalize k2.v.heap.size = B at *
  generalize k2.v = W2 at *
  clear k2 k
  go_loopw [8] (fun t wr => ∃ (s : RS) (f : Nat), t = .int .i64 s.pos ∧ s.ok l ∧ s.n + f = budget.toNat ∧ runL l f s = runL l budget.toNat RS.zero ∧ ∃ j : Ex w, wr = j.v ∧ RunS l w.heap.size bc B s j.v) (fun _ wr => (budget - intOf ((wr.cell? ⟨w.heap.size, 2, none⟩).getD undef)).toNat)
  case atStart =>
    obtain ⟨j, hj⟩ := hEx.out
    exact ⟨RS.zero, budget.toNat, rfl, RS.zero_ok l, by simp [RS.zero], rfl, j, hj, hj ▸ hW.out⟩
  case round =>
    obtain ⟨⟨pos, tm, ev, n, cnt, seen⟩, f, rfl, hs, hnf, hrun, j, rfl, hRW⟩ := hrel
    obtain ⟨hsz, ⟨v, D, S, q, r6, how, hrd, hlen, hmem⟩, ⟨Fc, rc, hFc⟩⟩ := hRW
    have x0 : j.v.cell? ⟨w.heap.size, 0, none⟩ = some v := r6.cell (i := 0) (by omega)
    have x1 : j.v.cell? ⟨w.heap.size, 1, none⟩ = some (.int .i64 tm) := r6.cell (i := 1) (by omega)
    have x2 : j.v.cell? ⟨w.heap.size, 2, none⟩ = some (.int .i64 n) := r6.cell (i := 2) (by omega)
    have x3 : j.v.cell? ⟨w.heap.size, 3, none⟩ = some (.slice D S.length q) := r6.cell (i := 3) (by omega)
    have p0 := r6.frozen 0
    have p1 := r6.frozen 1
    have p2 := r6.frozen 2
    have p3 := r6.frozen 3
    have HM := hid hmem
    have hlen : S.length ≤ n := hlen
    obtain ⟨A1, c1, rfl, hO1, hF1⟩ := Ow.of_row (f := evC) (fun _ => rfl) how
    have HOWN := hid how
    haveI R6 : RowF _ _ _ j.v w.heap.size := ⟨r6⟩
    haveI Rc : RowF _ _ _ j.v bc := ⟨rc⟩
    haveI OW : OwR B _ 2 (.slice A1 ev.length c1) ev.length _ j.v := ⟨how⟩
    haveI LB : LeB B j.v.heap.size := ⟨hsz⟩
    haveI w6 := R6.lt
    haveI wc := Rc.lt
    have HS := hid hs
    have HR := hid hrun
    have HO1 := hid hO1
    have HF1 := hid hF1
    obtain ⟨htm, hev, -, -, hcnt, hpos⟩ := hs
    obtain ⟨tm0, tm1⟩ : 0 ≤ tm ∧ tm ≤ 7200000 := htm
    have hev : ev.length ≤ 64 := hev
    have hnf : n + f = budget.toNat := hnf
    have hpos : pos ≤ l.length := hpos
    have hcn := hcnt pos
    obtain ⟨hcn0, hcn1⟩ : 0 ≤ cnt pos ∧ cnt pos ≤ 100 := hcn
    clear hcnt hmem
    clear hrun r6 how hO1 hF1 hsz
    by_cases hlt : pos < l.length
    · obtain ⟨b, o, rfl, hbw, hc⟩ := HA.out (by omega)
      obtain ⟨c0, c1', c2⟩ := hc pos hlt
      haveI : NeB w.heap.size b := ⟨by have := hbw.h; omega⟩
      haveI : NeB bc b := ⟨by have := hbw.h; have := lc.h; omega⟩
      have hFC := hid hFc
      have rc1 := rc.cell hlt
      rw [hFc pos hlt] at rc1
      have rc2 := rc.frozen pos
      have hk := HOK.out.2 pos hlt
      have hxo := HO.out _ (List.getElem_mem hlt)
      clear hFc rc hc
      cases f with
      | zero =>
        have E := hid (runL_full (l := l) (s := ⟨pos, tm, ev, n, cnt, seen⟩) hlt)
        have hnb2 : budget < (n : Int) + 1 := by omega
        go_wp2
        (go_ret2; rw [← HR.out, E.out]; refine runPostS_err (by decide) (by rfl) ?_; (refine Ok.toEx ?_; (repeat (first | (with_reducible exact Ok.rf _) | (with_reducible refine Ok.alloc ?_ _) | (with_reducible refine Ok.ex ?_ _) | (with_reducible refine Ok.drew ?_) | (with_reducible refine Ok.setCellI ?_ _ _ _) | (with_reducible refine Ok.exb ?_ _)))))
      | succ f =>
        have hnb : (n : Int) + 1 ≤ budget := by omega
        have HG := fun s' (he : stepL l ⟨pos, tm, ev, n, cnt, seen⟩ l[pos] = .go s') => hid (And.intro (stepL_ok hk hlt HS.out he) (runL_go (f := f) (s := ⟨pos, tm, ev, n, cnt, seen⟩) hlt he))
        have HT := fun c (he : stepL l ⟨pos, tm, ev, n, cnt, seen⟩ l[pos] = .stop c) => hid (runL_stop (f := f) (s := ⟨pos, tm, ev, n, cnt, seen⟩) hlt he)
        have hHG := hid HG
        have hHT := hid HT
        clear HG HT
        generalize l[pos] = x at *
        rcases stepL_cases (s := ⟨pos, tm, ev, n, cnt, seen⟩) hk with ⟨k1, e⟩ | ⟨k1, ⟨k2, k2'⟩, k3, e⟩ | ⟨k1, ⟨k2, k2'⟩, k3, e⟩ | ⟨k1, k2, e⟩ | ⟨k1, k2, e⟩ | ⟨k1, ⟨k2, k2'⟩, k3, k4, e⟩ | ⟨k1, ⟨k2, k2'⟩, k3, k4, e⟩ | ⟨k1, e⟩
        · have E := hHG.out _ e
          dsimp only at E
          clear e hk
          go_wp2_with ((go_at_call 79; (refine (put_any _ _ S _ _ (hl := rdB_h (B := B)) (by omega)).mono ?_); rintro e w' ⟨D2, q2', rfl, kp, rfl, hOp, hFp⟩; have RD2 : RdB B 1 iC kp.v D2 (putL S pos) := ⟨haveI := hOp; inferInstance, fun b o m h => Nat.le_trans (LeB.h) (hFp.h b o m h)⟩; clear hOp))
          (go_roundw; (case rel => (refine ⟨_, f, ?_, E.out.1.1, ?_, E.out.2.symm.trans HR.out, ex_and (fun W => RunS l w.heap.size bc B _ W) ?_ ⟨LeB.h, ⟨.slice A1 ev.length c1, D2, putL S pos, q2', rowF_congr _ ?_, owR_h, inferInstance, ?_, mem_upd HM.out⟩, ⟨_, rowF_h, ?_⟩⟩⟩; (· exact (by go_num)); (· (show n + 1 + f = _; omega)); (· (refine Ok.toEx ?_; (repeat (first | (with_reducible exact Ok.rf _) | (with_reducible refine Ok.alloc ?_ _) | (with_reducible refine Ok.ex ?_ _) | (with_reducible refine Ok.drew ?_) | (with_reducible refine Ok.setCellI ?_ _ _ _) | (with_reducible refine Ok.exb ?_ _))))); (· (intro i hi; match i, hi with | 0, _ => rfl | 1, _ => rfl | 2, _ => rfl | 3, _ => rfl)); (· (have := putL_len pos S; show (putL S pos).length ≤ n + 1; omega)); (· exact hFC.out))); (case measure => (simp [go_sem, x2, intOf]; omega)))
        · have E := hHG.out _ e
          dsimp only at E k3
          clear e hk
          go_wp2_with ((go_at_call 79; (refine (put_any _ _ S _ _ (hl := rdB_h (B := B)) (by omega)).mono ?_); rintro e w' ⟨D2, q2', rfl, kp, rfl, hOp, hFp⟩; have RD2 : RdB B 1 iC kp.v D2 (putL S pos) := ⟨haveI := hOp; inferInstance, fun b o m h => Nat.le_trans (LeB.h) (hFp.h b o m h)⟩; clear hOp))
          (refine wp_region_ex_tail 9 (by kernel_rfl) (by kernel_rfl) ?_; simp only [List.take_succ_cons, List.take_zero, List.drop_succ_cons, List.drop_zero]; (repeat (go_big_quiet_step ((fail)))); refine wpQuiet_nil ?_; intro k)
          go_wp2
          (go_roundw; (case rel => (refine ⟨_, f, ?_, E.out.1.1, ?_, E.out.2.symm.trans HR.out, ex_and (fun W => RunS l w.heap.size bc B _ W) ?_ ⟨LeB.h, ⟨.slice A1 ev.length c1, D2, putL S pos, q2', rowF_congr _ ?_, owR_h, inferInstance, ?_, mem_upd HM.out⟩, ⟨_, rowF_h, ?_⟩⟩⟩; (· exact (by go_num)); (· (show n + 1 + f = _; omega)); (· (refine Ok.toEx ?_; (repeat (first | (with_reducible exact Ok.rf _) | (with_reducible refine Ok.alloc ?_ _) | (with_reducible refine Ok.ex ?_ _) | (with_reducible refine Ok.drew ?_) | (with_reducible refine Ok.setCellI ?_ _ _ _) | (with_reducible refine Ok.exb ?_ _))))); (· (intro i hi; match i, hi with | 0, _ => rfl | 1, _ => rfl | 2, _ => rfl | 3, _ => rfl)); (· (have := putL_len pos S; show (putL S pos).length ≤ n + 1; omega)); (· exact hFC.out))); (case measure => (simp [go_sem, x2, intOf]; omega)))
        · have E := hHT.out _ e
          dsimp only at k3
          clear e hk
          go_wp2_with ((go_at_call 79; (refine (put_any _ _ S _ _ (hl := rdB_h (B := B)) (by omega)).mono ?_); rintro e w' ⟨D2, q2', rfl, kp, rfl, hOp, hFp⟩; have RD2 : RdB B 1 iC kp.v D2 (putL S pos) := ⟨haveI := hOp; inferInstance, fun b o m h => Nat.le_trans (LeB.h) (hFp.h b o m h)⟩; clear hOp))
          (refine wp_region_ex_tail 9 (by kernel_rfl) (by kernel_rfl) ?_; simp only [List.take_succ_cons, List.take_zero, List.drop_succ_cons, List.drop_zero]; (repeat (go_big_quiet_step ((fail)))); refine wpQuiet_nil ?_; intro k)
          go_wp2
          (go_ret2; rw [← HR.out, E.out]; refine runPostS_err (by decide) (by rfl) ?_; (refine Ok.toEx ?_; (repeat (first | (with_reducible exact Ok.rf _) | (with_reducible refine Ok.alloc ?_ _) | (with_reducible refine Ok.ex ?_ _) | (with_reducible refine Ok.drew ?_) | (with_reducible refine Ok.setCellI ?_ _ _ _) | (with_reducible refine Ok.exb ?_ _)))))
        · have E := hHG.out _ e
          dsimp only at E k2
          clear e hk
          have hevn : ((ev.length : Int) == 64) = false := by rw [beq_eq_false_iff_ne]; omega
          go_wp2_with ((go_at_call 79; (refine (put_any _ _ S _ _ (hl := rdB_h (B := B)) (by omega)).mono ?_); rintro e w' ⟨D2, q2', rfl, kp, rfl, hOp, hFp⟩; have RD2 : RdB B 1 iC kp.v D2 (putL S pos) := ⟨haveI := hOp; inferInstance, fun b o m h => Nat.le_trans (LeB.h) (hFp.h b o m h)⟩; clear hOp))
          have HFP := hid hFp
          clear hFp
          go_region_law? (refine step_appK evC rfl (.tmp 88) (.tmp 96) 45 rfl B ?_ 50 (.agg #[.int .i64 0, .string ⟨#[]⟩]) 2 24 Try.underlying45 infoEv rfl (by omega) (fun _ => ⟨rfl, by simp [evC, Value.oneCell']⟩) (.slice A1 ev.length c1) ev (by simp [Act.eval, Act.put]) ?_ (⟨tm, x.name⟩ : Ev) _ _ rfl (cellsB ?_) ?_ ?_ ?_; (· exact LeB.h); (· exact owR_h); (· simp); (· omega); (· omega); intro v' k' hown' hkeep; obtain ⟨A2, c2, rfl, hO2, hF2⟩ := Ow.of_row (f := evC) (fun _ => rfl) hown'; have OW2 : OwR B _ 2 (.slice A2 (ev.length + 1) c2) (ev ++ [(⟨tm, x.name⟩ : Ev)]).length ((ev ++ [(⟨tm, x.name⟩ : Ev)]).flatMap evC) k'.v := ⟨by rw [← (show (ev ++ [(⟨tm, x.name⟩ : Ev)]).length = ev.length + 1 by simp)]; exact hown'⟩; have RD3 : RdB B 1 iC k'.v D2 (putL S pos) := rdB_keep (inferInstance) k'.h.size hkeep HOWN.out (fun b o m h => by have := HFP.out.h b o m h; simpa [size_setCell'] using this); clear hown' hO2 hF2 hkeep)
          all_goals
            go_wp2
            (go_roundw; (case rel => (refine ⟨_, f, ?_, E.out.1.1, ?_, E.out.2.symm.trans HR.out, ex_and (fun W => RunS l w.heap.size bc B _ W) ?_ ⟨LeB.h, ⟨.slice A2 (ev.length + 1) c2, D2, putL S pos, q2', rowF_congr _ ?_, owR_h, inferInstance, ?_, mem_upd HM.out⟩, ⟨_, rowF_h, ?_⟩⟩⟩; (· exact (by go_num)); (· (show n + 1 + f = _; omega)); (· (refine Ok.toEx ?_; (repeat (first | (with_reducible exact Ok.rf _) | (with_reducible refine Ok.alloc ?_ _) | (with_reducible refine Ok.ex ?_ _) | (with_reducible refine Ok.drew ?_) | (with_reducible refine Ok.setCellI ?_ _ _ _) | (with_reducible refine Ok.exb ?_ _))))); (· (intro i hi; match i, hi with | 0, _ => rfl | 1, _ => rfl | 2, _ => rfl | 3, _ => rfl)); (· (have := putL_len pos S; show (putL S pos).length ≤ n + 1; omega)); (· exact hFC.out))); (case measure => (simp [go_sem, x2, intOf]; omega)))
        · have E := hHT.out _ e
          dsimp only at k2
          clear e hk
          have hevn : ((ev.length : Int) == 64) = true := by rw [beq_iff_eq]; omega
          go_wp2_with ((go_at_call 79; (refine (put_any _ _ S _ _ (hl := rdB_h (B := B)) (by omega)).mono ?_); rintro e w' ⟨D2, q2', rfl, kp, rfl, hOp, hFp⟩; have RD2 : RdB B 1 iC kp.v D2 (putL S pos) := ⟨haveI := hOp; inferInstance, fun b o m h => Nat.le_trans (LeB.h) (hFp.h b o m h)⟩; clear hOp))
          (go_ret2; rw [← HR.out, E.out]; refine runPostS_err (by decide) (by rfl) ?_; (refine Ok.toEx ?_; (repeat (first | (with_reducible exact Ok.rf _) | (with_reducible refine Ok.alloc ?_ _) | (with_reducible refine Ok.ex ?_ _) | (with_reducible refine Ok.drew ?_) | (with_reducible refine Ok.setCellI ?_ _ _ _) | (with_reducible refine Ok.exb ?_ _)))))
        · have E := hHG.out _ e
          dsimp only at E k4
          clear e hk
          have hlb := lbl_lt l x.name
          go_wp2_with ((go_at_call 79; (refine (put_any _ _ S _ _ (hl := rdB_h (B := B)) (by omega)).mono ?_); rintro e w' ⟨D2, q2', rfl, kp, rfl, hOp, hFp⟩; have RD2 : RdB B 1 iC kp.v D2 (putL S pos) := ⟨haveI := hOp; inferInstance, fun b o m h => Nat.le_trans (LeB.h) (hFp.h b o m h)⟩; clear hOp))
          (refine wp_region_ex (by kernel_rfl) (by kernel_rfl) ?_; (repeat (go_big_quiet_step ((fail)))); refine wpQuiet_nil ?_; rintro _ ⟨k, rfl⟩)
          go_wp2_with ((go_at_call 80; refine (l15Label_any _ _ _ _ _ (lns_up HL.out)).mono ?_; rintro e w' ⟨rfl, rfl⟩))
          (go_roundw; (case rel => (refine ⟨_, f, ?_, E.out.1.1, ?_, E.out.2.symm.trans HR.out, ex_and (fun W => RunS l w.heap.size bc B _ W) ?_ ⟨LeB.h, ⟨.slice A1 ev.length c1, D2, putL S pos, q2', rowF_congr _ ?_, owR_h, inferInstance, ?_, mem_upd HM.out⟩, ⟨_, rowF_h, ?_⟩⟩⟩; (· exact (congrArg (Value.int .i64) (by show lbl l x.name = ((lbl l x.name).toNat : Int); omega))); (· (show n + 1 + f = _; omega)); (· (refine Ok.toEx ?_; (repeat (first | (with_reducible exact Ok.rf _) | (with_reducible refine Ok.alloc ?_ _) | (with_reducible refine Ok.ex ?_ _) | (with_reducible refine Ok.drew ?_) | (with_reducible refine Ok.setCellI ?_ _ _ _) | (with_reducible refine Ok.exb ?_ _))))); (· (intro i hi; match i, hi with | 0, _ => rfl | 1, _ => rfl | 2, _ => rfl | 3, _ => rfl)); (· (have := putL_len pos S; show (putL S pos).length ≤ n + 1; omega)); (· exact rc_upd hFC.out))); (case measure => (simp [go_sem, x2, intOf]; omega)))
        · have E := hHG.out _ e
          dsimp only at E k4
          clear e hk
          go_wp2_with ((go_at_call 79; (refine (put_any _ _ S _ _ (hl := rdB_h (B := B)) (by omega)).mono ?_); rintro e w' ⟨D2, q2', rfl, kp, rfl, hOp, hFp⟩; have RD2 : RdB B 1 iC kp.v D2 (putL S pos) := ⟨haveI := hOp; inferInstance, fun b o m h => Nat.le_trans (LeB.h) (hFp.h b o m h)⟩; clear hOp))
          (refine wp_region_ex (by kernel_rfl) (by kernel_rfl) ?_; (repeat (go_big_quiet_step ((fail)))); refine wpQuiet_nil ?_; rintro _ ⟨k, rfl⟩)
          go_wp2
          (go_roundw; (case rel => (refine ⟨_, f, ?_, E.out.1.1, ?_, E.out.2.symm.trans HR.out, ex_and (fun W => RunS l w.heap.size bc B _ W) ?_ ⟨LeB.h, ⟨.slice A1 ev.length c1, D2, putL S pos, q2', rowF_congr _ ?_, owR_h, inferInstance, ?_, mem_upd HM.out⟩, ⟨_, rowF_h, ?_⟩⟩⟩; (· exact (by go_num)); (· (show n + 1 + f = _; omega)); (· (refine Ok.toEx ?_; (repeat (first | (with_reducible exact Ok.rf _) | (with_reducible refine Ok.alloc ?_ _) | (with_reducible refine Ok.ex ?_ _) | (with_reducible refine Ok.drew ?_) | (with_reducible refine Ok.setCellI ?_ _ _ _) | (with_reducible refine Ok.exb ?_ _))))); (· (intro i hi; match i, hi with | 0, _ => rfl | 1, _ => rfl | 2, _ => rfl | 3, _ => rfl)); (· (have := putL_len pos S; show (putL S pos).length ≤ n + 1; omega)); (· exact rc_upd hFC.out))); (case measure => (simp [go_sem, x2, intOf]; omega)))
        · have E := hHG.out _ e
          dsimp only at E
          clear e hk
          go_wp2_with ((go_at_call 79; (refine (put_any _ _ S _ _ (hl := rdB_h (B := B)) (by omega)).mono ?_); rintro e w' ⟨D2, q2', rfl, kp, rfl, hOp, hFp⟩; have RD2 : RdB B 1 iC kp.v D2 (putL S pos) := ⟨haveI := hOp; inferInstance, fun b o m h => Nat.le_trans (LeB.h) (hFp.h b o m h)⟩; clear hOp))
          (go_roundw; (case rel => (refine ⟨_, f, ?_, E.out.1.1, ?_, E.out.2.symm.trans HR.out, ex_and (fun W => RunS l w.heap.size bc B _ W) ?_ ⟨LeB.h, ⟨.slice A1 ev.length c1, D2, putL S pos, q2', rowF_congr _ ?_, owR_h, inferInstance, ?_, mem_upd HM.out⟩, ⟨_, rowF_h, ?_⟩⟩⟩; (· exact (by go_num)); (· (show n + 1 + f = _; omega)); (· (refine Ok.toEx ?_; (repeat (first | (with_reducible exact Ok.rf _) | (with_reducible refine Ok.alloc ?_ _) | (with_reducible refine Ok.ex ?_ _) | (with_reducible refine Ok.drew ?_) | (with_reducible refine Ok.setCellI ?_ _ _ _) | (with_reducible refine Ok.exb ?_ _))))); (· (intro i hi; match i, hi with | 0, _ => rfl | 1, _ => rfl | 2, _ => rfl | 3, _ => rfl)); (· (have := putL_len pos S; show (putL S pos).length ≤ n + 1; omega)); (· exact hFC.out))); (case measure => (simp [go_sem, x2, intOf]; omega)))
    · have HE := hid (runL_end (l := l) (f := f) (s := ⟨pos, tm, ev, n, cnt, seen⟩) hlt)
      have hnn : n ≤ 20000 := by omega
      go_wp2
      go_ret2
      rw [← HR.out, HE.out]
      refine ⟨w.heap.size, by rfl, j, rfl, fun _ => ⟨A1, c1, D, S, q, ⟨w6, Nat.le_refl _, x0, x1, x2, x3, fun hA => ?_, HO1.out, rdB_h (B := B), by omega, HM.out⟩⟩⟩
      subst hA
      rcases HOWN.out.2 with ⟨h, _⟩ | ⟨g, cap, cur, h, _⟩
      · simp at h; exact h.2
      · simp at h
end
end Go.Proofs.Ytpapphhbogngcaa
