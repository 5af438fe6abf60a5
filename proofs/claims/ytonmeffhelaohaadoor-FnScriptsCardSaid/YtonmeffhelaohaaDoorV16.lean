/-
  Contract of the program's runScript. Conditions: those typed at each theorem.
  Contract of the reference's l15Do. Conditions: those typed at each theorem.
-/
import Derived.Test.YtonmeffhelaohaaDoorV11
import Derived.Test.YtonmeffhelaohaaDoorV9
import Derived.Test.YtonmeffhelaohaaDoorV7
namespace Go.Proofs.YtonmeffhelaohaaDoor
open Go.RowKit
def bC (x : Bool) : List Value := [.bool x]
/-- the cells of what a run has done -/
def st4 (v : Value) (tm n : Int) (r : Value) : Nat → Value := fun i => if i = 0 then v else if i = 1 then .int .i64 tm else if i = 2 then .int .i64 n else r
/-- which lines were reached -/
def rch (l : List Ln) (a : Int × RS) : List Bool := if a.1 = 0 then (List.range l.length).map a.2.seen else []
/-- what runScript hands back -/
def RunPost (l : List Ln) (a : Int × RS) (w : World) (e : Ending) (w' : World) : Prop :=
  ∃ (B D : Option Addr) (p q : Nat), e = .returned (.tuple #[.agg #[.slice B a.2.ev.length p, .int .i64 a.2.tm, .int .i64 a.2.n, .slice D (rch l a).length q], .int .i64 a.1]) ∧
    (B = none → p = 0) ∧ ∃ k : Ex w, w' = k.v ∧ Ow 2 evC k.v B a.2.ev ∧ Fr w B ∧ Rd 1 bC k.v D (rch l a)
theorem runPost_err {l : List Ln} {c : Int} {w : World} {e : Ending} {w' : World} (hc : c ≠ 0) (he : e = .returned (.tuple #[.agg #[.slice none 0 0, .int .i64 0, .int .i64 0, .slice none 0 0], .int .i64 c])) (hw : ∃ k : Ex w, w' = k.v) :
    RunPost l (c, RS.zero) w e w' := by
  obtain ⟨k, rfl⟩ := hw
  have hr : rch l (c, RS.zero) = [] := by unfold rch; rw [if_neg hc]
  refine ⟨none, none, 0, 0, ?_, fun _ => rfl, k, rfl, Ow.nil, inferInstance, ?_⟩
  · rw [hr]; exact he
  · rw [hr]; exact Rd.nil
/-- the memory of a run -/
theorem rr_upd {F : Nat → Value} {seen : Nat → Bool} {pos n : Nat} (h : ∀ i, i < n → F i = .bool (seen i)) : ∀ i, i < n → (if i = pos then Value.bool true else F i) = .bool (updB seen pos i) := fun i hi => by
  unfold updB
  by_cases e : i = pos
  · rw [if_pos e, if_pos e]
  · rw [if_neg e, if_neg e]; exact h i hi
theorem rc_upd {F : Nat → Value} {cnt : Nat → Int} {pos n : Nat} {v : Int} (h : ∀ i, i < n → F i = .int .i64 (cnt i)) : ∀ i, i < n → (if i = pos then Value.int .i64 v else F i) = .int .i64 (updI cnt pos v i) := fun i hi => by
  unfold updI
  by_cases e : i = pos
  · rw [if_pos e, if_pos e]
  · rw [if_neg e, if_neg e]; exact h i hi
structure RunW (l : List Ln) (b4 b6 br bc B : Nat) (s : RS) (rv : Value) (W : World) : Prop where
  sz : B ≤ W.heap.size
  r4 : ∃ F, W.rowIs b4 74 4 F
  r6 : ∃ v, W.rowIs b6 74 4 (st4 v s.tm s.n rv) ∧ W.ownsRow B 42 2 v s.ev.length (s.ev.flatMap evC)
  rr : ∃ F, W.rowIs br 4 l.length F ∧ ∀ i, i < l.length → F i = .bool (s.seen i)
  rc : ∃ F, W.rowIs bc 2 l.length F ∧ ∀ i, i < l.length → F i = .int .i64 (s.cnt i)
theorem rch_rd {l : List Ln} {s : RS} {W : World} {br : Nat} (hn : l.length ≤ 1048576) (h : ∃ F, W.rowIs br 4 l.length F ∧ ∀ i, i < l.length → F i = .bool (s.seen i)) : Rd 1 bC W (some ⟨br, 0, none⟩) (rch l (0, s)) := by
  obtain ⟨F, hr, hF⟩ := h
  have he : rch l (0, s) = (List.range l.length).map s.seen := by unfold rch; rw [if_pos rfl]
  rw [he]
  refine ⟨by simp; omega, fun _ => ⟨br, 0, rfl, ⟨hr.lt⟩, fun k hk j v hv => ?_⟩⟩
  have hk' : k < l.length := by simpa using hk
  have := hr.cell hk'
  rw [hF k hk'] at this
  match j with
  | 0 => simp [bC] at hv; subst hv; simpa using this
  | j + 1 => simp [bC] at hv
theorem runPost_ok {l : List Ln} {s : RS} {w : World} {e : Ending} {w' : World} {A : Option Addr} {c br : Nat} {B : Nat} (hn : l.length ≤ 1048576) (hB : LeB w.heap.size B)
    (he : e = .returned (.tuple #[.agg #[.slice A s.ev.length c, .int .i64 s.tm, .int .i64 s.n, .slice (some ⟨br, 0, none⟩) l.length l.length], .int .i64 0])) (hw : ∃ k : Ex w, w' = k.v)
    (ho : w'.ownsRow B 42 2 (.slice A s.ev.length c) s.ev.length (s.ev.flatMap evC)) (hr : ∃ F, w'.rowIs br 4 l.length F ∧ ∀ i, i < l.length → F i = .bool (s.seen i)) : RunPost l (0, s) w e w' := by
  obtain ⟨k, rfl⟩ := hw
  have hl : (rch l (0, s)).length = l.length := by unfold rch; rw [if_pos rfl]; simp
  obtain ⟨A2, c2, h1, h2, h3⟩ := Ow.of_row (f := evC) (fun _ => rfl) ho
  cases h1
  refine ⟨A, _, c, l.length, by rw [hl]; exact he, fun hA => ?_, k, rfl, h2, ⟨fun b o m h => Nat.le_trans hB.h (h3 b o m h)⟩, rch_rd hn hr⟩
  subst hA
  rcases ho.2 with ⟨h, _⟩ | ⟨g, cap, cur, h, _⟩
  · simp at h; exact h.2
  · simp at h
theorem lns_up {w0 w : World} {A : Option Addr} {l : List Ln} (h : Lns w0 A l) [Up w0 w] : Lns w A l := by
  haveI := h.toOks
  haveI : Rd 3 Ln.cells w A l := h.toRd.up
  infer_instance
section
set_option maxHeartbeats 6400000
set_option maxRecDepth 20000
theorem infoEv : (Tryd.prog.info? 42).map (fun i => (i.zero, i.size, i.bytes)) = some (some (.agg #[.int .i64 0, .string ⟨#[]⟩]), 2, 24) := by kernel_rfl
theorem infoBool : (Tryd.prog.info? 4).map (fun i => (i.zero, i.size, i.bytes)) = some (some (.bool false), 1, 1) := by kernel_rfl
theorem iRun_inv (A : Option Addr) (c : Nat) (l : List Ln) (budget : Int) (w : World) [hl : Lns w A l] (hcap : l.length ≤ c) (hn : l.length ≤ 1048576) (hv : vL l = false) :
    Calls Tryd.prog 35 #[.slice A l.length c, .int .i64 budget] w (RunPost l (1, RS.zero) w) := by
  go_enter Tryd.func35, Tryd.ntmps35
  go_wp2_with (go_at_call 30; refine (iValid_any _ _ _ _ (by omega) (by omega)).mono ?_; rw [hv]; rintro e w' ⟨rfl, k, rfl⟩)
  refine bodyPost_ret (v := _) (by first | (simp [results, Tryd.results35, go_sem]; done) | (simp [results, Tryd.results35, go_sem]; rfl)) rfl (runPost_err (by decide) (by rfl) ?_)
  (refine Ok.toEx ?_; (repeat (first | (with_reducible exact Ok.rf _) | (with_reducible refine Ok.alloc ?_ _) | (with_reducible refine Ok.ex ?_ _) | (with_reducible refine Ok.drew ?_) | (with_reducible refine Ok.setCellI ?_ _ _ _) | (with_reducible refine Ok.exb ?_ _))))
theorem iRun_rng (A : Option Addr) (c : Nat) (l : List Ln) (budget : Int) (w : World) [hl : Lns w A l] (hcap : l.length ≤ c) (hn : l.length ≤ 1048576) (hv : vL l = true) (hb : budget < 1 ∨ 20000 < budget) :
    Calls Tryd.prog 35 #[.slice A l.length c, .int .i64 budget] w (RunPost l (2, RS.zero) w) := by
  go_enter Tryd.func35, Tryd.ntmps35
  go_wp2_with (first | (go_at_call 30; refine (iValid_any _ _ _ _ (by omega) (by omega)).mono ?_; rw [hv]; rintro e w' ⟨rfl, k, rfl⟩) | (go_at_call 47; first | (refine (wi_yes _ _ _ _ (by omega) (by omega)).mono ?_; rintro e w' ⟨rfl, rfl⟩) | (refine (wi_no _ _ _ _ (by omega)).mono ?_; rintro e w' ⟨rfl, rfl⟩)))
  refine bodyPost_ret (v := _) (by first | (simp [results, Tryd.results35, go_sem]; done) | (simp [results, Tryd.results35, go_sem]; rfl)) rfl (runPost_err (by decide) (by rfl) ?_)
  (refine Ok.toEx ?_; (repeat (first | (with_reducible exact Ok.rf _) | (with_reducible refine Ok.alloc ?_ _) | (with_reducible refine Ok.ex ?_ _) | (with_reducible refine Ok.drew ?_) | (with_reducible refine Ok.setCellI ?_ _ _ _) | (with_reducible refine Ok.exb ?_ _))))
theorem iRun_go (A : Option Addr) (c : Nat) (l : List Ln) (budget : Int) (w : World) [hl : Lns w A l] (hcap : l.length ≤ c) (hn : l.length ≤ 1048576) (hv : vL l = true) (hb1 : 1 ≤ budget) (hb2 : budget ≤ 20000) :
    Calls Tryd.prog 35 #[.slice A l.length c, .int .i64 budget] w (RunPost l (runL l budget.toNat RS.zero) w) := by
  have hok := vL_of hv
  have HOK := hid hok
  have HA := hid hl.at
  have HL := hid hl
  have HO := hid hl.toOks.h
  clear hok
  go_enter Tryd.func35, Tryd.ntmps35
  go_wp2_with (first | (go_at_call 30; refine (iValid_any _ _ _ _ (by omega) (by omega)).mono ?_; rw [hv]; rintro e w' ⟨rfl, k, rfl⟩) | (go_at_call 47; first | (refine (wi_yes _ _ _ _ (by omega) (by omega)).mono ?_; rintro e w' ⟨rfl, rfl⟩) | (refine (wi_no _ _ _ _ (by omega)).mono ?_; rintro e w' ⟨rfl, rfl⟩)) | (at_make; refine wpList_mk _ rfl _ _ _ rfl _ _ _ _ Tryd.underlying72 infoBool l.length rfl rfl (by omega) (by omega) ?_; intro k1 hb1 hr1) | (at_make; refine wpList_mk _ rfl _ _ _ rfl _ _ _ _ Tryd.underlying43 infoI64 l.length rfl rfl (by omega) (by omega) ?_; intro k2 hb2 hr2))
  have s1 : w.heap.size < k.v.heap.size := (inferInstance : LtW w.heap.size k.v).h
  have s2 : k.v.heap.size < k1.v.heap.size := hb1.h
  have s3 : k1.v.heap.size + 1 < k2.v.heap.size := by have := hb2.h; simpa using this
  have hEx : ∃ j : Ex w, k2.v = j.v := by (refine Ok.toEx ?_; (repeat (first | (with_reducible exact Ok.rf _) | (with_reducible refine Ok.alloc ?_ _) | (with_reducible refine Ok.ex ?_ _) | (with_reducible refine Ok.drew ?_) | (with_reducible refine Ok.setCellI ?_ _ _ _) | (with_reducible refine Ok.exb ?_ _))))
  have hW : RunW l w.heap.size k1.v.heap.size k.v.heap.size (k1.v.heap.size + 1) k2.v.heap.size RS.zero (.slice (some ⟨k.v.heap.size, 0, none⟩) l.length l.length) k2.v := by
    have hr1' := hr1.congr (g := fun _ => .bool false) (fun i hi => made_one rfl (by omega))
    have hr2' := hr2.congr (g := fun _ => .int .i64 0) (fun i hi => made_one rfl (by omega))
    rw [Nat.mul_one] at hr1' hr2'
    haveI hR : RowF _ _ _ k1.v k.v.heap.size := ⟨hr1'⟩
    refine ⟨Nat.le_refl _, ⟨_, (inferInstance : RowF _ _ _ k2.v w.heap.size).h⟩, ⟨.slice none 0 0, (inferInstance : RowF _ _ _ k2.v k1.v.heap.size).h.congr ?_, World.ownsRow_nil _ _ _ _⟩, ⟨_, (inferInstance : RowF _ _ _ k2.v k.v.heap.size).h, fun _ _ => rfl⟩, ⟨fun _ => .int .i64 0, by simpa using hr2', fun _ _ => rfl⟩⟩
    · intro i hi
      match i, hi with
      | 0, _ => rfl
      | 1, _ => rfl
      | 2, _ => rfl
      | 3, _ => rfl
  have hEx := hid hEx
  have hW := hid hW
  have l6 : LeB w.heap.size k1.v.heap.size := ⟨by omega⟩
  have lr : LeB w.heap.size k.v.heap.size := ⟨by omega⟩
  have lc : LeB w.heap.size (k1.v.heap.size + 1) := ⟨by omega⟩
  have g4 : LtN w.heap.size k2.v.heap.size := ⟨by omega⟩
  have g6 : LtN k1.v.heap.size k2.v.heap.size := ⟨by omega⟩
  have gr : LtN k.v.heap.size k2.v.heap.size := ⟨by omega⟩
  have gc : LtN (k1.v.heap.size + 1) k2.v.heap.size := ⟨by omega⟩
  have n46 : NeB w.heap.size k1.v.heap.size := ⟨by omega⟩
  have n64 : NeB k1.v.heap.size w.heap.size := ⟨by omega⟩
  have n4r : NeB w.heap.size k.v.heap.size := ⟨by omega⟩
  have nr4 : NeB k.v.heap.size w.heap.size := ⟨by omega⟩
  have n4c : NeB w.heap.size (k1.v.heap.size + 1) := ⟨by omega⟩
  have nc4 : NeB (k1.v.heap.size + 1) w.heap.size := ⟨by omega⟩
  have n6r : NeB k1.v.heap.size k.v.heap.size := ⟨by omega⟩
  have nr6 : NeB k.v.heap.size k1.v.heap.size := ⟨by omega⟩
  have n6c : NeB k1.v.heap.size (k1.v.heap.size + 1) := ⟨by omega⟩
  have nc6 : NeB (k1.v.heap.size + 1) k1.v.heap.size := ⟨by omega⟩
  have nrc : NeB k.v.heap.size (k1.v.heap.size + 1) := ⟨by omega⟩
  have ncr : NeB (k1.v.heap.size + 1) k.v.heap.size := ⟨by omega⟩
  have hBB : LeB w.heap.size k2.v.heap.size := ⟨by omega⟩
  clear s1 s2 s3 hr1 hr2 hb1 hb2
  generalize k1.v.heap.size + 1 = bc at *
  generalize k1.v.heap.size = b6 at *
  generalize k.v.heap.size = br at *
  generalize k2.v.heap.size = B at *
  generalize k2.v = W2 at *
  clear k2 k1 k
  go_loopw [8] (fun t wr => ∃ (s : RS) (f : Nat), t = .int .i64 s.pos ∧ s.ok l ∧ s.n + f = budget.toNat ∧ runL l f s = runL l budget.toNat RS.zero ∧ ∃ j : Ex w, wr = j.v ∧ RunW l w.heap.size b6 br bc B s (.slice (some ⟨br, 0, none⟩) l.length l.length) j.v) (fun _ wr => (budget - intOf ((wr.cell? ⟨b6, 2, none⟩).getD undef)).toNat)
  case atStart => 
    obtain ⟨j, hj⟩ := hEx.out
    exact ⟨RS.zero, budget.toNat, rfl, RS.zero_ok l, by simp [RS.zero], rfl, j, hj, hj ▸ hW.out⟩
  case round =>
    obtain ⟨⟨pos, tm, ev, n, cnt, seen⟩, f, rfl, hs, hnf, hrun, j, rfl, hRW⟩ := hrel
    obtain ⟨hsz, ⟨F4, r4⟩, ⟨v, r6, how⟩, ⟨Fr, rr, hFr⟩, ⟨Fc, rc, hFc⟩⟩ := hRW
    have q0 : j.v.cell? ⟨b6, 0, none⟩ = some v := r6.cell (i := 0) (by omega)
    have q1 : j.v.cell? ⟨b6, 1, none⟩ = some (.int .i64 tm) := r6.cell (i := 1) (by omega)
    have q2 : j.v.cell? ⟨b6, 2, none⟩ = some (.int .i64 n) := r6.cell (i := 2) (by omega)
    have q3 : j.v.cell? ⟨b6, 3, none⟩ = some (.slice (some ⟨br, 0, none⟩) l.length l.length) := r6.cell (i := 3) (by omega)
    have p0 := r6.frozen 0
    have p1 := r6.frozen 1
    have p2 := r6.frozen 2
    have p3 := r6.frozen 3
    have t0 := r4.cell (i := 0) (by omega)
    have t1 := r4.cell (i := 1) (by omega)
    have t2 := r4.cell (i := 2) (by omega)
    have t3 := r4.cell (i := 3) (by omega)
    have y0 := r4.frozen 0
    have y1 := r4.frozen 1
    have y2 := r4.frozen 2
    have y3 := r4.frozen 3
    obtain ⟨A1, c1, rfl, hO1, hF1⟩ := Ow.of_row (f := evC) (fun _ => rfl) how
    haveI R4 : RowF _ _ _ j.v w.heap.size := ⟨r4⟩
    haveI R6 : RowF _ _ _ j.v b6 := ⟨r6⟩
    haveI Rr : RowF _ _ _ j.v br := ⟨rr⟩
    haveI Rc : RowF _ _ _ j.v bc := ⟨rc⟩
    haveI OW : OwR B _ 2 (.slice A1 ev.length c1) ev.length _ j.v := ⟨how⟩
    haveI LB : LeB B j.v.heap.size := ⟨hsz⟩
    haveI w4 := R4.lt
    haveI w6 := R6.lt
    haveI wr := Rr.lt
    haveI wc := Rc.lt
    have HS := hid hs
    have HR := hid hrun
    have HO1 := hid hO1
    have HF1 := hid hF1
    obtain ⟨htm, hev, -, -, hcnt, hpos⟩ := hs
    obtain ⟨tm0, tm1⟩ : 0 ≤ tm ∧ tm ≤ 7200000 := htm
    have hev : ev.length ≤ 64 := hev
    have hnf : n + f = budget.toNat := hnf
    have hpos : pos ≤ l.length := hpos
    have hcn := hcnt pos
    obtain ⟨hcn0, hcn1⟩ : 0 ≤ cnt pos ∧ cnt pos ≤ 100 := hcn
    clear hcnt
    clear hrun r4 r6 how hO1 hF1 hsz
    by_cases hlt : pos < l.length
    · obtain ⟨b, o, rfl, hbw, hc⟩ := HA.out (by omega)
      obtain ⟨c0, c1', c2⟩ := hc pos hlt
      haveI : NeB w.heap.size b := ⟨by have := hbw.h; omega⟩
      haveI : NeB b6 b := ⟨by have := hbw.h; have := l6.h; omega⟩
      haveI : NeB br b := ⟨by have := hbw.h; have := lr.h; omega⟩
      haveI : NeB bc b := ⟨by have := hbw.h; have := lc.h; omega⟩
      have hFR := hid hFr
      have hFC := hid hFc
      have rr1 := rr.cell hlt
      rw [hFr pos hlt] at rr1
      have rr2 := rr.frozen pos
      have rc1 := rc.cell hlt
      rw [hFc pos hlt] at rc1
      have rc2 := rc.frozen pos
      have hk := HOK.out.2 pos hlt
      have hxo := HO.out _ (List.getElem_mem hlt)
      clear hFr hFc rr rc hc
      cases f with
      | zero =>
        have HF := hid (runL_full (l := l) (s := ⟨pos, tm, ev, n, cnt, seen⟩) hlt)
        have hnb2 : ((n : Int) == budget) = true := by rw [beq_iff_eq]; omega
        go_wp2
        refine bodyPost_ret (v := _) (by first | (simp [results, Tryd.results35, go_sem, t0, t1, t2, t3]; done) | (simp [results, Tryd.results35, go_sem, t0, t1, t2, t3]; rfl)) rfl ?_
        rw [← HR.out, HF.out]
        refine runPost_err (by decide) (by rfl) ?_
        (refine Ok.toEx ?_; (repeat (first | (with_reducible exact Ok.rf _) | (with_reducible refine Ok.alloc ?_ _) | (with_reducible refine Ok.ex ?_ _) | (with_reducible refine Ok.drew ?_) | (with_reducible refine Ok.setCellI ?_ _ _ _) | (with_reducible refine Ok.exb ?_ _))))
      | succ f =>
        have hnb : (n : Int) < budget := by omega
        have hnb2 : ((n : Int) == budget) = false := by rw [beq_eq_false_iff_ne]; omega
        have HG := fun s' (he : stepL l ⟨pos, tm, ev, n, cnt, seen⟩ l[pos] = .go s') => hid (And.intro (stepL_ok hk hlt HS.out he) (runL_go (f := f) (s := ⟨pos, tm, ev, n, cnt, seen⟩) hlt he))
        have HT := fun c (he : stepL l ⟨pos, tm, ev, n, cnt, seen⟩ l[pos] = .stop c) => hid (runL_stop (f := f) (s := ⟨pos, tm, ev, n, cnt, seen⟩) hlt he)
        have hHG := hid HG
        have hHT := hid HT
        clear HG HT
        generalize l[pos] = x at *
        rcases stepL_cases (s := ⟨pos, tm, ev, n, cnt, seen⟩) hk with ⟨k1, e⟩ | ⟨k1, ⟨k2, k2'⟩, k3, e⟩ | ⟨k1, ⟨k2, k2'⟩, k3, e⟩ | ⟨k1, k2, e⟩ | ⟨k1, k2, e⟩ | ⟨k1, ⟨k2, k2'⟩, k3, k4, e⟩ | ⟨k1, ⟨k2, k2'⟩, k3, k4, e⟩ | ⟨k1, e⟩
        · have E := hHG.out _ e
          dsimp only at E
          clear e hk
          go_wp2
          (go_roundw; (case rel => (refine ⟨_, f, ?_, E.out.1.1, ?_, E.out.2.symm.trans HR.out, ex_and (fun W => RunW l w.heap.size b6 br bc B _ (.slice (some ⟨br, 0, none⟩) l.length l.length) W) ?_ ⟨LeB.h, ⟨_, rowF_h⟩, ⟨.slice A1 ev.length c1, rowF_congr _ ?_, owR_h⟩, ⟨_, rowF_h, ?_⟩, ⟨_, rowF_h, ?_⟩⟩⟩; (· exact (by go_num)); (· (show n + 1 + f = _; omega)); (· (refine Ok.toEx ?_; (repeat (first | (with_reducible exact Ok.rf _) | (with_reducible refine Ok.alloc ?_ _) | (with_reducible refine Ok.ex ?_ _) | (with_reducible refine Ok.drew ?_) | (with_reducible refine Ok.setCellI ?_ _ _ _) | (with_reducible refine Ok.exb ?_ _))))); (· (intro i hi; match i, hi with | 0, _ => rfl | 1, _ => rfl | 2, _ => rfl | 3, _ => rfl)); (· exact rr_upd hFR.out); (· exact hFC.out))); (case measure => (simp [go_sem, q2, intOf]; omega)))
        · have E := hHG.out _ e
          dsimp only at E k3
          clear e hk
          go_wp2
          (go_roundw; (case rel => (refine ⟨_, f, ?_, E.out.1.1, ?_, E.out.2.symm.trans HR.out, ex_and (fun W => RunW l w.heap.size b6 br bc B _ (.slice (some ⟨br, 0, none⟩) l.length l.length) W) ?_ ⟨LeB.h, ⟨_, rowF_h⟩, ⟨.slice A1 ev.length c1, rowF_congr _ ?_, owR_h⟩, ⟨_, rowF_h, ?_⟩, ⟨_, rowF_h, ?_⟩⟩⟩; (· exact (by go_num)); (· (show n + 1 + f = _; omega)); (· (refine Ok.toEx ?_; (repeat (first | (with_reducible exact Ok.rf _) | (with_reducible refine Ok.alloc ?_ _) | (with_reducible refine Ok.ex ?_ _) | (with_reducible refine Ok.drew ?_) | (with_reducible refine Ok.setCellI ?_ _ _ _) | (with_reducible refine Ok.exb ?_ _))))); (· (intro i hi; match i, hi with | 0, _ => rfl | 1, _ => rfl | 2, _ => rfl | 3, _ => rfl)); (· exact rr_upd hFR.out); (· exact hFC.out))); (case measure => (simp [go_sem, q2, intOf]; omega)))
        · have E := hHT.out _ e
          dsimp only at k3
          clear e hk
          go_wp2
          (refine bodyPost_ret (v := _) (by first | (simp [results, Tryd.results35, go_sem, t0, t1, t2, t3]; done) | (simp [results, Tryd.results35, go_sem, t0, t1, t2, t3]; rfl)) rfl ?_; rw [← HR.out, E.out]; refine runPost_err (by decide) (by rfl) ?_; (refine Ok.toEx ?_; (repeat (first | (with_reducible exact Ok.rf _) | (with_reducible refine Ok.alloc ?_ _) | (with_reducible refine Ok.ex ?_ _) | (with_reducible refine Ok.drew ?_) | (with_reducible refine Ok.setCellI ?_ _ _ _) | (with_reducible refine Ok.exb ?_ _)))))
        · have E := hHG.out _ e
          dsimp only at E k2
          clear e hk
          have hevn : ((ev.length : Int) == 64) = false := by rw [beq_eq_false_iff_ne]; omega
          have OWH := hid OW.h
          go_wp2_with (at_builtin; (refine wpList_appB evC _ rfl _ _ _ rfl B ?_ 42 (.agg #[.int .i64 0, .string ⟨#[]⟩]) 2 24 Tryd.underlying35 infoEv rfl (by omega) (fun _ => ⟨rfl, by simp [evC, Value.oneCell']⟩) (.slice A1 ev.length c1) ev rfl ?_ (⟨tm, x.name⟩ : Ev) _ _ rfl (cellsB ?_) ?_ ?_ ?_; (· exact LeB.h); (· exact owR_h); (· simp); (· omega); (· omega); intro v' k' hown'; obtain ⟨A2, c2, rfl, hO2, hF2⟩ := Ow.of_row (f := evC) (fun _ => rfl) hown'; have OW2 : OwR B _ 2 (.slice A2 (ev.length + 1) c2) (ev ++ [(⟨tm, x.name⟩ : Ev)]).length ((ev ++ [(⟨tm, x.name⟩ : Ev)]).flatMap evC) k'.v := ⟨by rw [← (show (ev ++ [(⟨tm, x.name⟩ : Ev)]).length = ev.length + 1 by simp)]; exact hown'⟩; clear hown' hO2 hF2))
          (go_roundw; (case rel => (refine ⟨_, f, ?_, E.out.1.1, ?_, E.out.2.symm.trans HR.out, ex_and (fun W => RunW l w.heap.size b6 br bc B _ (.slice (some ⟨br, 0, none⟩) l.length l.length) W) ?_ ⟨LeB.h, ⟨_, rowF_h⟩, ⟨.slice A2 (ev.length + 1) c2, rowF_congr _ ?_, owR_h⟩, ⟨_, rowF_h, ?_⟩, ⟨_, rowF_h, ?_⟩⟩⟩; (· exact (by go_num)); (· (show n + 1 + f = _; omega)); (· (refine Ok.toEx ?_; (repeat (first | (with_reducible exact Ok.rf _) | (with_reducible refine Ok.alloc ?_ _) | (with_reducible refine Ok.ex ?_ _) | (with_reducible refine Ok.drew ?_) | (with_reducible refine Ok.setCellI ?_ _ _ _) | (with_reducible refine Ok.exb ?_ _))))); (· (intro i hi; match i, hi with | 0, _ => rfl | 1, _ => rfl | 2, _ => rfl | 3, _ => rfl)); (· exact rr_upd hFR.out); (· exact hFC.out))); (case measure => (simp [go_sem, q2, intOf]; omega)))
        · have E := hHT.out _ e
          dsimp only at k2
          clear e hk
          have hevn : ((ev.length : Int) == 64) = true := by rw [beq_iff_eq]; omega
          go_wp2
          (refine bodyPost_ret (v := _) (by first | (simp [results, Tryd.results35, go_sem, t0, t1, t2, t3]; done) | (simp [results, Tryd.results35, go_sem, t0, t1, t2, t3]; rfl)) rfl ?_; rw [← HR.out, E.out]; refine runPost_err (by decide) (by rfl) ?_; (refine Ok.toEx ?_; (repeat (first | (with_reducible exact Ok.rf _) | (with_reducible refine Ok.alloc ?_ _) | (with_reducible refine Ok.ex ?_ _) | (with_reducible refine Ok.drew ?_) | (with_reducible refine Ok.setCellI ?_ _ _ _) | (with_reducible refine Ok.exb ?_ _)))))
        · have E := hHG.out _ e
          dsimp only at E k4
          clear e hk
          have hlb := lbl_lt l x.name
          go_wp2
          (refine wp_region_ex (by kernel_rfl) (by kernel_rfl) ?_; (repeat (go_big_quiet_step ((fail)))); refine wpQuiet_nil ?_; rintro _ ⟨k, rfl⟩)
          go_wp2_with ((go_at_call 58; refine (labelIndex_any _ _ _ _ _ (lns_up HL.out)).mono ?_; rintro e w' ⟨rfl, k, rfl⟩))
          (go_roundw; (case rel => (refine ⟨_, f, ?_, E.out.1.1, ?_, E.out.2.symm.trans HR.out, ex_and (fun W => RunW l w.heap.size b6 br bc B _ (.slice (some ⟨br, 0, none⟩) l.length l.length) W) ?_ ⟨LeB.h, ⟨_, rowF_h⟩, ⟨.slice A1 ev.length c1, rowF_congr _ ?_, owR_h⟩, ⟨_, rowF_h, ?_⟩, ⟨_, rowF_h, ?_⟩⟩⟩; (· exact (congrArg (Value.int .i64) (by show lbl l x.name = ((lbl l x.name).toNat : Int); omega))); (· (show n + 1 + f = _; omega)); (· (refine Ok.toEx ?_; (repeat (first | (with_reducible exact Ok.rf _) | (with_reducible refine Ok.alloc ?_ _) | (with_reducible refine Ok.ex ?_ _) | (with_reducible refine Ok.drew ?_) | (with_reducible refine Ok.setCellI ?_ _ _ _) | (with_reducible refine Ok.exb ?_ _))))); (· (intro i hi; match i, hi with | 0, _ => rfl | 1, _ => rfl | 2, _ => rfl | 3, _ => rfl)); (· exact rr_upd hFR.out); (· exact rc_upd hFC.out))); (case measure => (simp [go_sem, q2, intOf]; omega)))
        · have E := hHG.out _ e
          dsimp only at E k4
          clear e hk
          go_wp2
          (refine wp_region_ex (by kernel_rfl) (by kernel_rfl) ?_; (repeat (go_big_quiet_step ((fail)))); refine wpQuiet_nil ?_; rintro _ ⟨k, rfl⟩)
          go_wp2
          (go_roundw; (case rel => (refine ⟨_, f, ?_, E.out.1.1, ?_, E.out.2.symm.trans HR.out, ex_and (fun W => RunW l w.heap.size b6 br bc B _ (.slice (some ⟨br, 0, none⟩) l.length l.length) W) ?_ ⟨LeB.h, ⟨_, rowF_h⟩, ⟨.slice A1 ev.length c1, rowF_congr _ ?_, owR_h⟩, ⟨_, rowF_h, ?_⟩, ⟨_, rowF_h, ?_⟩⟩⟩; (· exact (by go_num)); (· (show n + 1 + f = _; omega)); (· (refine Ok.toEx ?_; (repeat (first | (with_reducible exact Ok.rf _) | (with_reducible refine Ok.alloc ?_ _) | (with_reducible refine Ok.ex ?_ _) | (with_reducible refine Ok.drew ?_) | (with_reducible refine Ok.setCellI ?_ _ _ _) | (with_reducible refine Ok.exb ?_ _))))); (· (intro i hi; match i, hi with | 0, _ => rfl | 1, _ => rfl | 2, _ => rfl | 3, _ => rfl)); (· exact rr_upd hFR.out); (· exact rc_upd hFC.out))); (case measure => (simp [go_sem, q2, intOf]; omega)))
        · have E := hHG.out _ e
          have HE := hid (runL_end (l := l) (f := f) (s := ⟨l.length, tm, ev, n + 1, cnt, updB seen pos⟩) (by simp))
          dsimp only at E
          clear e hk
          go_wp2
          refine bodyPost_ret (v := _) (by first | (simp [results, Tryd.results35, go_sem, q0, q1, q2, q3, t0, t1, t2, t3]; done) | (simp [results, Tryd.results35, go_sem, q0, q1, q2, q3, t0, t1, t2, t3]; rfl)) rfl ?_
          rw [← HR.out, E.out.2, HE.out]
          (refine runPost_ok (B := B) hn hBB (by rfl) ?_ owR_h (⟨_, rowF_h, rr_upd hFR.out⟩); (refine Ok.toEx ?_; (repeat (first | (with_reducible exact Ok.rf _) | (with_reducible refine Ok.alloc ?_ _) | (with_reducible refine Ok.ex ?_ _) | (with_reducible refine Ok.drew ?_) | (with_reducible refine Ok.setCellI ?_ _ _ _) | (with_reducible refine Ok.exb ?_ _)))))
    · have HE := hid (runL_end (l := l) (f := f) (s := ⟨pos, tm, ev, n, cnt, seen⟩) hlt)
      go_wp2
      refine bodyPost_ret (v := _) (by first | (simp [results, Tryd.results35, go_sem, q0, q1, q2, q3, t0, t1, t2, t3]; done) | (simp [results, Tryd.results35, go_sem, q0, q1, q2, q3, t0, t1, t2, t3]; rfl)) rfl ?_
      rw [← HR.out, HE.out]
      (refine runPost_ok (B := B) hn hBB (by rfl) ?_ owR_h (⟨_, rowF_h, hFr⟩); (refine Ok.toEx ?_; (repeat (first | (with_reducible exact Ok.rf _) | (with_reducible refine Ok.alloc ?_ _) | (with_reducible refine Ok.ex ?_ _) | (with_reducible refine Ok.drew ?_) | (with_reducible refine Ok.setCellI ?_ _ _ _) | (with_reducible refine Ok.exb ?_ _)))))
end
end Go.Proofs.YtonmeffhelaohaaDoor
namespace Go.Proofs.YtonmeffhelaohaaDoor
open Go.RowKit
/-- what l15Do leaves in memory where it ends well -/
structure SeenAt (l : List Ln) (s : RS) (w : World) (b : Nat) (B : Option Addr) (c : Nat) (D : Option Addr) (S : List Int) (q : Nat) (W : World) : Prop where
  lt : LtW b W
  ge : w.heap.size ≤ b
  c0 : W.cell? ⟨b, 0, none⟩ = some (.slice B s.ev.length c)
  c1 : W.cell? ⟨b, 1, none⟩ = some (.int .i64 s.tm)
  c2 : W.cell? ⟨b, 2, none⟩ = some (.int .i64 s.n)
  c3 : W.cell? ⟨b, 3, none⟩ = some (.slice D S.length q)
  hn : B = none → c = 0
  ev : Ow 2 evC W B s.ev
  rd : Rd 1 iC W D S
  len : S.length ≤ 1048576
  mem : ∀ i, i < l.length → ((i : Int) ∈ S ↔ s.seen i = true)
def RunPostS (l : List Ln) (a : Int × RS) (w : World) (e : Ending) (w' : World) : Prop :=
  ∃ b, e = .returned (.tuple #[.pointer (some ⟨b, 0, none⟩), .int .i64 a.1]) ∧ ∃ k : Ex w, w' = k.v ∧ (a.1 = 0 → ∃ B c D S q, SeenAt l a.2 w b B c D S q k.v)
theorem runPostS_err {l : List Ln} {c : Int} {s : RS} {w : World} {e : Ending} {w' : World} {b : Nat} (hc : c ≠ 0) (he : e = .returned (.tuple #[.pointer (some ⟨b, 0, none⟩), .int .i64 c])) (hw : ∃ k : Ex w, w' = k.v) :
    RunPostS l (c, s) w e w' := by
  obtain ⟨k, rfl⟩ := hw
  exact ⟨b, he, k, rfl, fun h => absurd h hc⟩
theorem mem_upd {l : List Ln} {S : List Int} {seen : Nat → Bool} {pos : Nat} (h : ∀ i, i < l.length → ((i : Int) ∈ S ↔ seen i = true)) : ∀ i, i < l.length → ((i : Int) ∈ putL S pos ↔ updB seen pos i = true) := fun i hi => by
  rw [mem_putL]
  unfold updB
  by_cases e : i = pos
  · simp [e]
  · rw [if_neg e, ← h i hi]
    constructor
    · rintro (h1 | h1)
      · omega
      · exact h1
    · exact .inr
section
set_option maxHeartbeats 6400000
set_option maxRecDepth 20000
end
end Go.Proofs.YtonmeffhelaohaaDoor
