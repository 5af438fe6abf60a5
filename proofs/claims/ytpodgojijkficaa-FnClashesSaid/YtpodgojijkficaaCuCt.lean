/-
  ClashesOf: both. Conditions: those typed at each theorem.
-/
import Derived.Test.YtpodgojijkficaaCuCs
import Derived.Test.YtpodgojijkficaaAppZ
import Derived.Deep.Cut
import Derived.Deep.CutRange
namespace Go.Proofs.Ytpodgojijkficaa
open Go.RowKit
section
set_option maxHeartbeats 3200000
set_option maxRecDepth 20000
theorem clash_any (x y : Cu) (b z b' z' : Nat) (w : World) [LtW b w] [LtW b' w] (hx : CuAt w b z x) (hy : CuAt w b' z' y) (h1 : 0 ≤ x.t ∧ x.t ≤ 7200000) (h2 : 0 ≤ x.ln ∧ x.ln ≤ 7200000) {r : Bool} (hr : clB x y = r) :
    Calls Try.prog 92 #[.pointer (some ⟨b, z, none⟩), .pointer (some ⟨b', z', none⟩)] w fun e w' => e = .returned (.bool r) ∧ ∃ k : Ex w, w' = k.v := by
  subst hr
  obtain ⟨c0, c1, c2, c3, c4, c5⟩ := hx
  obtain ⟨d0, d1, d2, d3, d4, d5⟩ := hy
  obtain ⟨h1, h1'⟩ := h1
  obtain ⟨h2, h2'⟩ := h2
  have hw : IntKind.i64.wrap (x.t + x.ln) = x.t + x.ln := IntWalk.i64_in _ (by omega)
  rcases clB_cases x y with ⟨h0, e1⟩ | ⟨h0, e1, e2⟩ | ⟨h0, e1, e2, e3⟩ | ⟨h0, e1, e2, e3⟩
  all_goals
    have HV := hid h0
    clear h0
    go_enter Try.func92, Try.ntmps92
    go_wp2
    (refine wp_region_ex (by kernel_rfl) (by kernel_rfl) ?_; (repeat (go_big_quiet_step ((fail)))); refine wpQuiet_nil ?_; rintro _ ⟨k, rfl⟩)
    go_wp2
    go_ret
    exact ⟨by rw [HV.out]; first | rfl | simp_all, k, rfl⟩
/-- block T holds the numbers and the target of cue x -/
structure XC (T : Nat) (x : Cu) (W : World) : Prop where
  lt : T < W.heap.size
  c1 : W.cell? ⟨T, 1, none⟩ = some (.int .i64 x.t)
  c2 : W.cell? ⟨T, 2, none⟩ = some (.int .i64 x.ln)
  c3 : W.cell? ⟨T, 3, none⟩ = some (.string x.tg)
theorem XC.of_block {T : Nat} {x : Cu} {W W' : World} (h : XC T x W) (hb : W'.heap[T]? = W.heap[T]?) (hs : W.heap.size ≤ W'.heap.size) : XC T x W' :=
  ⟨Nat.lt_of_lt_of_le h.lt hs, (World.cell?_of_block hb).trans h.c1, (World.cell?_of_block hb).trans h.c2, (World.cell?_of_block hb).trans h.c3⟩
theorem XC.alloc {T : Nat} {x : Cu} {W : World} (h : XC T x W) (o : Obj) : XC T x (W.alloc o) := h.of_block ((Below.refl _ _).alloc (Nat.le_refl _) o |>.block T h.lt) (by simp)
/-- what ClashesOf leaves -/
def ClPost (w : World) (V : List (List Int)) (E : Int) (e : Ending) (w' : World) : Prop := ∃ A c bs, e = .returned (.tuple #[.slice A bs.length c, .int .i64 E]) ∧ ∃ k : Ex w, w' = k.v ∧ PrR w.heap.size 39 (.slice A bs.length c) bs V k.v
theorem ClPost.get {w : World} {V : List (List Int)} {E : Int} {e : Ending} {w' : World} (h : ClPost w V E e w') : ∃ A c bs, e = .returned (.tuple #[.slice A V.length c, .int .i64 E]) ∧ bs.length = V.length ∧ ∃ k : Ex w, w' = k.v ∧ PrR w.heap.size 39 (.slice A V.length c) bs V k.v := by
  obtain ⟨A, c, bs, rfl, k, rfl, hp⟩ := h
  have := hp.len
  rw [this] at hp ⊢
  exact ⟨A, c, bs, rfl, this, k, rfl, hp⟩
theorem clPost_nil (w : World) (E : Int) (k : Ex w) : ClPost w [] E (.returned (.tuple #[.slice none 0 0, .int .i64 E])) k.v := ⟨none, 0, [], rfl, k, rfl, PrR.nil _ _ _⟩
theorem iClashesOf_any (A : Option Addr) (c : Nat) (l : List Cu) (w : World) [hk : COks l] [hl : Rd 6 cC w A l] (hcap : l.length ≤ c) (hn : l.length ≤ 1048576) {V : List (List Int)} {E : Int} (hV : csV l = V) (hE : csE l = E) :
    Calls Try.prog 22 #[.slice A l.length c] w fun e w' => ClPost w V E e w' := by
  subst hV; subst hE
  have hlen := hl.len
  cases hv : vCs l
  · have HR : Hid (csV l = [] ∧ csE l = 1) := hid (by unfold csV csE; rw [hv]; exact ⟨rfl, rfl⟩)
    have HV := hid hv
    clear hv
    go_enter Try.func22, Try.ntmps22
    go_wp2_with ((go_at_call 58; (with_reducible refine (iCs_any _ _ l _ ?_ ?_ (HV.out)).mono ?_); (· omega); (· omega); rintro e w' ⟨rfl, k, rfl⟩))
    go_ret2
    rw [HR.out.1, HR.out.2]
    exact clPost_nil _ _ _
  · have HR : Hid (csV l = clAll l l.length ∧ csE l = 0) := hid (by unfold csV csE; rw [hv]; exact ⟨rfl, rfl⟩)
    have h32 := (vCs_of hv).1
    have HA := hid hl.cu
    have HV := hid hv
    clear hv
    go_enter Try.func22, Try.ntmps22
    go_wp2_with ((go_at_call 58; (with_reducible refine (iCs_any _ _ l _ ?_ ?_ (HV.out)).mono ?_); (· omega); (· omega); rintro e w' ⟨rfl, k, rfl⟩))
    go_loopw [4, 14] (fun v t wr => ∃ (q : Nat) (bs : List Nat) (A1 : Option Addr) (c1 : Nat), q ≤ l.length ∧ v = .slice A1 bs.length c1 ∧ t = .int .i64 q ∧ ∃ j : Ex w, wr = j.v ∧ PrR w.heap.size 39 (.slice A1 bs.length c1) bs (clAll l q) j.v) (fun _ t _ => l.length - (intOf t).toNat)
    case atStart => exact ⟨0, [], none, 0, Nat.zero_le _, rfl, rfl, k, rfl, PrR.nil _ _ _⟩
    case round =>
      obtain ⟨q, bs0, A0, c0', hq, rfl, rfl, j0, rfl, hp0⟩ := hrel
      by_cases hlt : q < l.length
      · obtain ⟨b, o, rfl, hbw, hc⟩ := HA.out (by omega)
        have HC := hid hc
        obtain ⟨c0, c1, c2, c3, c4, c5⟩ := hc q hlt
        clear hc
        obtain ⟨⟨ht1, ht2⟩, -, ⟨hl1, hl2⟩⟩ := vC_num ((vCs_of HV.out).2 q hlt).1
        obtain ⟨x, hx⟩ : ∃ x, x = cuG l q := ⟨_, rfl⟩
        have HX := hid hx
        rw [← hx] at c0 c1 c2 c3 c4 c5 ht1 ht2 hl1 hl2
        clear hx
        obtain ⟨W1, hW1⟩ : ∃ W1, W1 = j0.v.alloc (.cells #[.string x.id, .int .i64 x.t, .int .i64 x.ln, .string x.tg, .int .i64 x.act, .int .i64 x.v] 37) := ⟨_, rfl⟩
        have hXC : XC j0.v.heap.size x W1 := by rw [hW1]; exact ⟨by simp, by simp [go_sem], by simp [go_sem], by simp [go_sem]⟩
        have hne0 : (Value.slice A0 bs0.length c0').ownBlock ≠ some j0.v.heap.size := fun e => by have := (hp0.own.lt _ e).2; omega
        have hp1 : PrR w.heap.size 39 (.slice A0 bs0.length c0') bs0 (clAll l q) W1 := by rw [hW1]; infer_instance
        have hEx : ∃ j : Ex w, W1 = j.v := by rw [hW1]; (refine Ok.toEx ?_; (repeat (first | (with_reducible exact Ok.rf _) | (with_reducible refine Ok.alloc ?_ _) | (with_reducible refine Ok.ex ?_ _) | (with_reducible refine Ok.drew ?_) | (with_reducible refine Ok.setCellI ?_ _ _ _) | (with_reducible refine Ok.exb ?_ _))))
        have HEx := hid hEx
        have HP1 := hid hp1
        have HXC := hid hXC
        have HNE := hid hne0
        have hqi : (q : Int) < (l.length : Int) := by omega
        clear hp0 hp1 hEx hXC hne0
        go_upto_region 7 with fail
        rw [← hW1]
        clear hW1
        generalize j0.v.heap.size = T at *
        go_wp2_with fail
        go_loopw [4, 7] (fun v t wr => ∃ (m : Nat) (bs : List Nat) (A1 : Option Addr) (c1 : Nat), q + 1 + m ≤ l.length ∧ v = .slice A1 bs.length c1 ∧ t = .int .i64 ((q : Int) + 1 + m) ∧ (Value.slice A1 bs.length c1).ownBlock ≠ some T ∧ ∃ j : Ex w, wr = j.v ∧ PrR w.heap.size 39 (.slice A1 bs.length c1) bs (clAll l q ++ clRow l q m) j.v ∧ XC T x j.v) (fun _ t _ => l.length - (intOf t).toNat)
        case atStart => exact ⟨0, bs0, A0, c0', by omega, rfl, by go_num, HNE.out, ex_and (fun W => PrR w.heap.size 39 (.slice A0 bs0.length c0') bs0 (clAll l q ++ clRow l q 0) W ∧ XC T x W) HEx.out ⟨by show PrR _ _ _ _ (clAll l q ++ []) W1; rw [List.append_nil]; exact HP1.out, HXC.out⟩⟩
        case round =>
          obtain ⟨m, bs, A1, c1, hm, rfl, rfl, hne, j1, rfl, hp1, hxc⟩ := hrel
          have hbl := hid (show bs.length ≤ 2000 by have h1 := hp1.len; have h2 := clAll_len l q; have h3 := clRow_len l q m; rw [List.length_append] at h1; have h4 : q * l.length ≤ 32 * 32 := Nat.mul_le_mul (by omega) (by omega); omega)
          have hszw := hid j1.h.size
          have HXC1 := hid hxc
          obtain ⟨e0, e1, e2, e3⟩ := hxc
          haveI : LtW T j1.v := ⟨e0⟩
          by_cases hml : q + 1 + m < l.length
          · have hmi : (q : Int) + 1 + (m : Int) < (l.length : Int) := by omega
            have hm0 : (0 : Int) ≤ (q : Int) + 1 + (m : Int) := by omega
            have hmt : ((q : Int) + 1 + (m : Int)).toNat = q + 1 + m := by omega
            obtain ⟨d0, d1, d2, d3, d4, d5⟩ := HC.out (q + 1 + m) hml
            obtain ⟨y, hy⟩ : ∃ y, y = cuG l (q + 1 + m) := ⟨_, rfl⟩
            rw [← hy] at d0 d1 d2 d3 d4 d5
            have hyt := (vC_num ((vCs_of HV.out).2 _ hml).1).1
            rw [← hy] at hyt
            obtain ⟨hyt1, hyt2⟩ := hyt
            rcases clB_cases x y with ⟨h0, g1⟩ | ⟨h0, g1, g2⟩ | ⟨h0, g1, g2, g3⟩ | ⟨h0, g1, g2, g3⟩
            · rw [HX.out, hy] at h0
              have HN : Hid (clAll l q ++ clRow l q m = clAll l q ++ clRow l q (m + 1)) := hid (by rw [show clRow l q (m + 1) = clRow l q m ++ clk l q (q + 1 + m) from rfl]; unfold clk; rw [if_neg (by rw [h0]; simp), List.append_nil])
              clear h0 hy
              go_wp2
              go_roundw
              case rel => exact ⟨m + 1, bs, A1, c1, by omega, rfl, by go_num, hne, ex_and (fun W => PrR w.heap.size 39 (.slice A1 bs.length c1) bs (clAll l q ++ clRow l q (m + 1)) W ∧ XC T x W) (by (refine Ok.toEx ?_; (repeat (first | (with_reducible exact Ok.rf _) | (with_reducible refine Ok.alloc ?_ _) | (with_reducible refine Ok.ex ?_ _) | (with_reducible refine Ok.drew ?_) | (with_reducible refine Ok.setCellI ?_ _ _ _) | (with_reducible refine Ok.exb ?_ _))))) ⟨by rw [← HN.out]; infer_instance, HXC1.out.alloc _⟩⟩
              case measure => simp [intOf]; omega
            · rw [HX.out, hy] at h0
              have HN : Hid (clAll l q ++ clRow l q m ++ [[(q : Int), (q : Int) + 1 + m]] = clAll l q ++ clRow l q (m + 1)) := hid (by rw [show clRow l q (m + 1) = clRow l q m ++ clk l q (q + 1 + m) from rfl]; unfold clk; rw [if_pos h0, List.append_assoc]; congr 3 <;> (first | rfl | simp | skip))
              clear h0 hy
              go_wp2_with ((at_builtin; go_loud (refine wpList_appZ prC _ rfl _ _ _ rfl w.heap.size ?_ _ _ _ _ Try.underlying33 infoI64s rfl (by omega) (fun _ => ⟨rfl, by simp [prC, Value.oneCell']⟩) (.slice A1 bs.length c1) bs rfl (((hp1.own.alloc _).alloc _).alloc _) (j1.v.heap.size + 1) (j1.v.heap.size + 1 + 1) _ rfl ?_ ?_ ?_ ?_; (· have := hszw.out; simp; omega); (· intro j u hu; cases j with | zero => (simp [prC] at hu; subst hu; simp [go_sem]) | succ j => simp [prC] at hu); (· have := hbl.out; omega); (· have := hbl.out; omega); intro v' kk hA)))
              have hst := PrR.step (w := j1.v.alloc _) (V := clAll l q ++ clRow l q m) (by simp) (by have := hszw.out; simp; omega) hA
              rw [HN.out] at hst
              obtain ⟨A2, c2, rfl⟩ := hst.form
              go_roundw
              case rel => exact ⟨m + 1, bs ++ [j1.v.heap.size + 1], A2, c2, by omega, rfl, by go_num, hA.ne (by simp; omega) hne, ex_and (fun W => PrR w.heap.size 39 (.slice A2 (bs ++ [j1.v.heap.size + 1]).length c2) (bs ++ [j1.v.heap.size + 1]) (clAll l q ++ clRow l q (m + 1)) W ∧ XC T x W) ⟨⟨kk.v, (((j1.h.alloc j1.h.size _).alloc (by have := j1.h.size; simp; omega) _).alloc (by have := j1.h.size; simp; omega) _).trans kk.h⟩, rfl⟩ ⟨hst, (((HXC1.out.alloc _).alloc _).alloc _).of_block (hA.keep T (by simp; omega) hne) kk.h.size⟩⟩
              case measure => simp [intOf]; omega
            · rw [HX.out, hy] at h0
              have HN : Hid (clAll l q ++ clRow l q m ++ [[(q : Int), (q : Int) + 1 + m]] = clAll l q ++ clRow l q (m + 1)) := hid (by rw [show clRow l q (m + 1) = clRow l q m ++ clk l q (q + 1 + m) from rfl]; unfold clk; rw [if_pos h0, List.append_assoc]; congr 3 <;> (first | rfl | simp | skip))
              clear h0 hy
              go_wp2_with ((at_builtin; go_loud (refine wpList_appZ prC _ rfl _ _ _ rfl w.heap.size ?_ _ _ _ _ Try.underlying33 infoI64s rfl (by omega) (fun _ => ⟨rfl, by simp [prC, Value.oneCell']⟩) (.slice A1 bs.length c1) bs rfl (((hp1.own.alloc _).alloc _).alloc _) (j1.v.heap.size + 1) (j1.v.heap.size + 1 + 1) _ rfl ?_ ?_ ?_ ?_; (· have := hszw.out; simp; omega); (· intro j u hu; cases j with | zero => (simp [prC] at hu; subst hu; simp [go_sem]) | succ j => simp [prC] at hu); (· have := hbl.out; omega); (· have := hbl.out; omega); intro v' kk hA)))
              have hst := PrR.step (w := j1.v.alloc _) (V := clAll l q ++ clRow l q m) (by simp) (by have := hszw.out; simp; omega) hA
              rw [HN.out] at hst
              obtain ⟨A2, c2, rfl⟩ := hst.form
              go_roundw
              case rel => exact ⟨m + 1, bs ++ [j1.v.heap.size + 1], A2, c2, by omega, rfl, by go_num, hA.ne (by simp; omega) hne, ex_and (fun W => PrR w.heap.size 39 (.slice A2 (bs ++ [j1.v.heap.size + 1]).length c2) (bs ++ [j1.v.heap.size + 1]) (clAll l q ++ clRow l q (m + 1)) W ∧ XC T x W) ⟨⟨kk.v, (((j1.h.alloc j1.h.size _).alloc (by have := j1.h.size; simp; omega) _).alloc (by have := j1.h.size; simp; omega) _).trans kk.h⟩, rfl⟩ ⟨hst, (((HXC1.out.alloc _).alloc _).alloc _).of_block (hA.keep T (by simp; omega) hne) kk.h.size⟩⟩
              case measure => simp [intOf]; omega
            · rw [HX.out, hy] at h0
              have HN : Hid (clAll l q ++ clRow l q m = clAll l q ++ clRow l q (m + 1)) := hid (by rw [show clRow l q (m + 1) = clRow l q m ++ clk l q (q + 1 + m) from rfl]; unfold clk; rw [if_neg (by rw [h0]; simp), List.append_nil])
              clear h0 hy
              go_wp2
              go_roundw
              case rel => exact ⟨m + 1, bs, A1, c1, by omega, rfl, by go_num, hne, ex_and (fun W => PrR w.heap.size 39 (.slice A1 bs.length c1) bs (clAll l q ++ clRow l q (m + 1)) W ∧ XC T x W) (by (refine Ok.toEx ?_; (repeat (first | (with_reducible exact Ok.rf _) | (with_reducible refine Ok.alloc ?_ _) | (with_reducible refine Ok.ex ?_ _) | (with_reducible refine Ok.drew ?_) | (with_reducible refine Ok.setCellI ?_ _ _ _) | (with_reducible refine Ok.exb ?_ _))))) ⟨by rw [← HN.out]; infer_instance, HXC1.out.alloc _⟩⟩
              case measure => simp [intOf]; omega
          · have hm2 : m = l.length - (q + 1) := by omega
            have hp2 : PrR w.heap.size 39 (.slice A1 bs.length c1) bs (clAll l (q + 1)) j1.v := by rw [hm2] at hp1; exact hp1
            have hmi : ¬ (q : Int) + 1 + (m : Int) < (l.length : Int) := by omega
            clear hm2
            go_wp2
            go_roundw
            case rel => exact ⟨q + 1, bs, A1, c1, by omega, rfl, by go_num, ex_and (fun W => PrR w.heap.size 39 (.slice A1 bs.length c1) bs (clAll l (q + 1)) W) (by (refine Ok.toEx ?_; (repeat (first | (with_reducible exact Ok.rf _) | (with_reducible refine Ok.alloc ?_ _) | (with_reducible refine Ok.ex ?_ _) | (with_reducible refine Ok.drew ?_) | (with_reducible refine Ok.setCellI ?_ _ _ _) | (with_reducible refine Ok.exb ?_ _))))) hp2⟩
            case measure => simp [intOf]; omega
      · obtain rfl : q = l.length := by omega
        go_wp2
        go_ret2
        rw [HR.out.1, HR.out.2]
        exact ⟨A0, c0', bs0, rfl, j0, rfl, hp0⟩
end
end Go.Proofs.Ytpodgojijkficaa
