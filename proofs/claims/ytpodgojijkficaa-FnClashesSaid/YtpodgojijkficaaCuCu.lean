/-
  ClashesOf of the specification. Conditions: those typed at each theorem.
-/
import Derived.Test.YtpodgojijkficaaCuCt
namespace Go.Proofs.Ytpodgojijkficaa
open Go.RowKit
section
set_option maxHeartbeats 3200000
set_option maxRecDepth 20000
theorem sClashes_any (A : Option Addr) (c : Nat) (l : List Cu) (w : World) [hk : COks l] [hl : Rd 6 cC w A l] (hv : vCs l = true) :
    Calls Try.prog 74 #[.slice A l.length c] w fun e w' => ∃ A' c' bs, e = .returned (.slice A' bs.length c') ∧ ∃ k : Ex w, w' = k.v ∧ PrR w.heap.size 39 (.slice A' bs.length c') bs (clAll l l.length) k.v := by
  have hlen := hl.len
  have h32 := (vCs_of hv).1
  have HA := hid hl.cu
  have HV := hid hv
  clear hv
  go_enter Try.func74, Try.ntmps74
  go_wp2
  go_loopw [3, 4] (fun v t wr => (∃ (q : Nat) (bs : List Nat) (A1 : Option Addr) (c1 : Nat), q ≤ l.length ∧ v = .slice A1 bs.length c1 ∧ t = .int .i64 q ∧ ∃ j : Ex w, wr = j.v ∧ PrR w.heap.size 39 (.slice A1 bs.length c1) bs (clAll l q) j.v)) (fun _ t _ => l.length - (intOf t).toNat)
  case atStart => exact ⟨0, [], some ⟨w.heap.size, 0, none⟩, 0, Nat.zero_le _, rfl, rfl, Ex.of ((Below.refl _ _).alloc (Nat.le_refl _) _), rfl, PrR.made w (Nat.le_refl _) _⟩
  case round =>
    obtain ⟨q, bs0, A0, c0', hq, rfl, rfl, j0, rfl, hp0⟩ := hrel
    by_cases hlt : q < l.length
    · obtain ⟨b, o, rfl, hbw, hc⟩ := HA.out (by omega)
      have HC := hid hc
      have hAx := hc q hlt
      clear hc
      have hn1 := vC_num ((vCs_of HV.out).2 q hlt).1
      obtain ⟨h1, -, h2⟩ := hn1
      have h3 : 0 ≤ (cuG l q).t ∧ (cuG l q).t ≤ 7200000 := h1
      have h4 : 0 ≤ (cuG l q).ln ∧ (cuG l q).ln ≤ 7200000 := ⟨h2.1, by omega⟩
      clear h1 h2
      obtain ⟨x, hx⟩ : ∃ x, x = cuG l q := ⟨_, rfl⟩
      have HX := hid hx
      rw [← hx] at hAx h3 h4
      clear hx
      have hqi : (q : Int) < (l.length : Int) := by omega
      have HP0 := hid hp0
      clear hp0
      go_wp2
      go_loopw [3, 5] (fun v t wr => ∃ (m : Nat) (bs : List Nat) (A1 : Option Addr) (c1 : Nat), q + 1 + m ≤ l.length ∧ v = .slice A1 bs.length c1 ∧ t = .int .i64 ((q : Int) + 1 + m) ∧ ∃ j : Ex w, wr = j.v ∧ PrR w.heap.size 39 (.slice A1 bs.length c1) bs (clAll l q ++ clRow l q m) j.v) (fun _ t _ => l.length - (intOf t).toNat)
      case atStart => exact ⟨0, bs0, A0, c0', by omega, rfl, by go_num, j0, rfl, by show PrR _ _ _ _ (clAll l q ++ []) _; rw [List.append_nil]; exact HP0.out⟩
      case round =>
        obtain ⟨m, bs, A1, c1, hm, rfl, rfl, j1, rfl, hp1⟩ := hrel
        have hbl := hid (show bs.length ≤ 2000 by have h1 := hp1.len; have h2 := clAll_len l q; have h3 := clRow_len l q m; rw [List.length_append] at h1; have h4 : q * l.length ≤ 32 * 32 := Nat.mul_le_mul (by omega) (by omega); omega)
        have hszw := hid j1.h.size
        by_cases hml : q + 1 + m < l.length
        · have hmi : (q : Int) + 1 + (m : Int) < (l.length : Int) := by omega
          have hm0 : (0 : Int) ≤ (q : Int) + 1 + (m : Int) := by omega
          have hmt : ((q : Int) + 1 + (m : Int)).toNat = q + 1 + m := by omega
          have hAy := HC.out (q + 1 + m) hml
          obtain ⟨y, hy⟩ : ∃ y, y = cuG l (q + 1 + m) := ⟨_, rfl⟩
          rw [← hy] at hAy
          cases h0 : clB x y
          · have h0' := h0
            rw [HX.out, hy] at h0'
            have HN : Hid (clAll l q ++ clRow l q m = clAll l q ++ clRow l q (m + 1)) := hid (by rw [show clRow l q (m + 1) = clRow l q m ++ clk l q (q + 1 + m) from rfl]; unfold clk; rw [if_neg (by rw [h0']; simp), List.append_nil])
            clear h0' hy
            go_wp2
            (refine wp_region_ex (by kernel_rfl) (by kernel_rfl) ?_; (repeat (go_big_quiet_step ((((go_at_call 92; exact calls_ex (clash_any x y b _ b _ _ (CuAt.up hAx) (CuAt.up hAy) h3 h4 h0))))))); refine wpQuiet_nil ?_; rintro _ ⟨k, rfl⟩)
            go_wp2
            go_roundw
            case rel => exact ⟨m + 1, bs, A1, c1, by omega, rfl, by go_num, ex_and (fun W => PrR w.heap.size 39 (.slice A1 bs.length c1) bs (clAll l q ++ clRow l q (m + 1)) W) (by (refine Ok.toEx ?_; (repeat (first | (with_reducible exact Ok.rf _) | (with_reducible refine Ok.alloc ?_ _) | (with_reducible refine Ok.ex ?_ _) | (with_reducible refine Ok.drew ?_) | (with_reducible refine Ok.setCellI ?_ _ _ _) | (with_reducible refine Ok.exb ?_ _))))) (by rw [← HN.out]; infer_instance)⟩
            case measure => simp [intOf]; omega
          · have h0' := h0
            rw [HX.out, hy] at h0'
            have HN : Hid (clAll l q ++ clRow l q m ++ [[(q : Int), (q : Int) + 1 + m]] = clAll l q ++ clRow l q (m + 1)) := hid (by rw [show clRow l q (m + 1) = clRow l q m ++ clk l q (q + 1 + m) from rfl]; unfold clk; rw [if_pos h0', List.append_assoc]; congr 3 <;> (first | rfl | simp | skip))
            clear h0' hy
            go_wp2
            (refine wp_region_ex (by kernel_rfl) (by kernel_rfl) ?_; (repeat (go_big_quiet_step ((((go_at_call 92; exact calls_ex (clash_any x y b _ b _ _ (CuAt.up hAx) (CuAt.up hAy) h3 h4 h0))))))); refine wpQuiet_nil ?_; rintro _ ⟨k, rfl⟩)
            go_wp2_with ((at_builtin; go_loud (refine wpList_appZ prC _ rfl _ _ _ rfl w.heap.size ?_ _ _ _ _ Try.underlying33 infoI64s rfl (by omega) (fun _ => ⟨rfl, by simp [prC, Value.oneCell']⟩) (.slice A1 bs.length c1) bs rfl (((ownsRow_ex hp1.own k).alloc _).alloc _) k.v.heap.size (k.v.heap.size + 1) _ rfl ?_ ?_ ?_ ?_; (· have := hszw.out; have := k.h.size; simp; omega); (· intro j u hu; cases j with | zero => (simp [prC] at hu; subst hu; simp [go_sem]) | succ j => simp [prC] at hu); (· have := hbl.out; omega); (· have := hbl.out; omega); intro v' kk hA)))
            have hst := PrR.step (w := k.v) (V := clAll l q ++ clRow l q m) rfl (by have := hszw.out; have := k.h.size; omega) hA
            rw [HN.out] at hst
            obtain ⟨A2, c2, rfl⟩ := hst.form
            go_roundw
            case rel => exact ⟨m + 1, bs ++ [k.v.heap.size], A2, c2, by omega, rfl, by go_num, ex_and (fun W => PrR w.heap.size 39 (.slice A2 (bs ++ [k.v.heap.size]).length c2) (bs ++ [k.v.heap.size]) (clAll l q ++ clRow l q (m + 1)) W) ⟨⟨kk.v, ((((j1.tr k).h.alloc (j1.tr k).h.size _).alloc (by have h1 := j1.h.size; have h2 := k.h.size; show w.heap.size ≤ (k.v.alloc _).heap.size; simp; omega) _).trans kk.h)⟩, rfl⟩ hst⟩
            case measure => simp [intOf]; omega
        · have hm2 : m = l.length - (q + 1) := by omega
          have hp2 : PrR w.heap.size 39 (.slice A1 bs.length c1) bs (clAll l (q + 1)) j1.v := by rw [hm2] at hp1; exact hp1
          have hmi : ¬ (q : Int) + 1 + (m : Int) < (l.length : Int) := by omega
          clear hm2
          go_wp2
          go_roundw
          case rel => exact ⟨q + 1, bs, A1, c1, by omega, rfl, by go_num, ex_and (fun W => PrR w.heap.size 39 (.slice A1 bs.length c1) bs (clAll l (q + 1)) W) (by (refine Ok.toEx ?_; (repeat (first | (with_reducible exact Ok.rf _) | (with_reducible refine Ok.alloc ?_ _) | (with_reducible refine Ok.ex ?_ _) | (with_reducible refine Ok.drew ?_) | (with_reducible refine Ok.setCellI ?_ _ _ _) | (with_reducible refine Ok.exb ?_ _))))) hp2⟩
          case measure => simp [intOf]; omega
    · obtain rfl : q = l.length := by omega
      go_wp2
      go_ret
      exact ⟨A0, c0', bs0, rfl, j0, rfl, hp0⟩
theorem sClashesOf_any (A : Option Addr) (c : Nat) (l : List Cu) (w : World) [hk : COks l] [hl : Rd 6 cC w A l] (hcap : l.length ≤ c) (hn : l.length ≤ 1048576) {V : List (List Int)} {E : Int} (hV : csV l = V) (hE : csE l = E) :
    Calls Try.prog 41 #[.slice A l.length c] w fun e w' => ClPost w V E e w' := by
  subst hV; subst hE
  have hlen := hl.len
  cases hv : vCs l
  · have HR : Hid (csV l = [] ∧ csE l = 1) := hid (by unfold csV csE; rw [hv]; exact ⟨rfl, rfl⟩)
    have HV := hid hv
    clear hv
    go_enter Try.func41, Try.ntmps41
    go_wp2_with ((go_at_call 56; (with_reducible refine (sCs_any _ _ l _ ?_ (HV.out)).mono ?_); (· omega); rintro e w' ⟨rfl, k, rfl⟩))
    go_ret2
    rw [HR.out.1, HR.out.2]
    exact clPost_nil _ _ _
  · have HR : Hid (csV l = clAll l l.length ∧ csE l = 0) := hid (by unfold csV csE; rw [hv]; exact ⟨rfl, rfl⟩)
    have HV := hid hv
    clear hv
    go_enter Try.func41, Try.ntmps41
    go_wp2_with (first | (go_at_call 56; (with_reducible refine (sCs_any _ _ l _ ?_ (HV.out)).mono ?_); (· omega); rintro e w' ⟨rfl, k, rfl⟩) | (go_at_call 74; go_loud ((with_reducible refine (sClashes_any _ _ l _ HV.out).mono ?_); rintro e w' ⟨A', c', bs, rfl, k2, rfl, hp⟩)))
    go_ret2
    rw [HR.out.1, HR.out.2]
    have hp2 : PrR w.heap.size 39 (.slice A' bs.length c') bs (clAll l l.length) k2.v := hp.mono k.h.size
    exact ⟨A', c', bs, rfl, ex_and (fun W => PrR w.heap.size 39 (.slice A' bs.length c') bs (clAll l l.length) W) (by (refine Ok.toEx ?_; (repeat (first | (with_reducible exact Ok.rf _) | (with_reducible refine Ok.alloc ?_ _) | (with_reducible refine Ok.ex ?_ _) | (with_reducible refine Ok.drew ?_) | (with_reducible refine Ok.setCellI ?_ _ _ _) | (with_reducible refine Ok.exb ?_ _))))) hp2⟩
end
end Go.Proofs.Ytpodgojijkficaa
