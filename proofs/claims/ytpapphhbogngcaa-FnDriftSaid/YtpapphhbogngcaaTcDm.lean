/-
  The draws of frames and of clocks. Conditions: those typed at each theorem.
-/
import Derived.Test.YtpapphhbogngcaaSrcB
import Derived.Test.YtpapphhbogngcaaTcM
import Derived.Test.YtpapphhbogngcaaIss
namespace Go.Proofs.Ytpapphhbogngcaa
open Go.RowKit
section
set_option maxHeartbeats 3200000
set_option maxRecDepth 20000
theorem infoI64d : (Try.prog.info? 2).map (fun i => (i.zero, i.size, i.bytes)) = some (some (.int .i64 0), 1, 8) := by kernel_rfl
theorem drawMiss_any (A : Option Addr) (c : Nat) (l : List Int) (w : World) [hl : Rd 1 byC w A l] (hb : ∀ x ∈ l, 0 ≤ x ∧ x ≤ 255) :
    Calls Try.prog 14 #[.slice A l.length c] w fun e w' => ∃ (A' : Option Addr) (c' : Nat) (m : List Int), m.length ≤ 1000 ∧ e = .returned (.slice A' m.length c') ∧ ∃ k : Ex w, w' = k.v ∧ Rd 1 iC k.v A' m := by
  obtain ⟨b, hbw⟩ : ∃ b, b = w.heap.size := ⟨_, rfl⟩
  haveI hle : LeB w.heap.size b := ⟨by omega⟩
  have HB := hid hbw
  clear hbw
  go_enter Try.func14, Try.ntmps14
  go_wp2_with (first | (go_at_call 39; go_loud (refine (from_g _ _ l b _ hb ?_).mono ?_; (· exact (by have := HB.out; simpa using this)); rintro e w' ⟨rfl, k, rfl, hs⟩)) | (go_at_call 47; go_loud (refine (pick_any b _ _ ?_ ?_).mono ?_); (· omega); (· omega); rintro e w' ⟨x, ⟨hx1, hx2⟩, rfl, k1, rfl⟩))
  have hbk : b < k.v.heap.size := hs.lt
  go_loopw [4, 5, 6] (fun v f t wr => ∃ (q : Nat) (D : List Int) (A1 : Option Addr) (c1 : Nat) (y : Int) (n' : Nat), q ≤ 6 ∧ t = .int .i64 q ∧ f = .int .i64 y ∧ v = .slice A1 D.length c1 ∧ D.length + q ≤ 6 ∧ n' + 2 * q ≤ 100 ∧ (-100000000000 + 10000000000 * (q : Int) ≤ y ∧ y ≤ 100000000000 - 10000000000 * (q : Int)) ∧ ∃ j : Dr b n' k.v, wr = j.v ∧ j.v.ownsRow k.v.heap.size 2 1 (.slice A1 D.length c1) D.length (D.flatMap iC)) (fun _ _ t _ => (intOf t).toNat)
  case atStart =>
    rename_i y hy1 hy2 k0 _ _
    obtain ⟨q, rfl⟩ := Int.eq_ofNat_of_zero_le hx1
    exact ⟨q, [], some ⟨k.v.heap.size, 0, none⟩, 0, y, 0 + 2 + 2, by omega, rfl, rfl, rfl, by simp; omega, by omega, ⟨by omega, by omega⟩, DrK.fin2 (p := fun W => W.ownsRow k.v.heap.size 2 1 (.slice (some ⟨k.v.heap.size, 0, none⟩) 0 0) 0 []) (DrK.dr (DrK.dr (DrK.alloc (n := 0) (DrK.rf b _) _) k0) k1) (Nat.le_refl _) (ownsRow_dr (ownsRow_dr (row_made k.v k.v.heap.size (Nat.le_refl _) 2 1 iC) k0 hbk) k1 hbk)⟩
  case round =>
    obtain ⟨q, D, A1, c1, y, n', hq, rfl, rfl, rfl, hD, hn', ⟨hy1, hy2⟩, j0, rfl, hrow⟩ := hrel
    have HROW := hid hrow
    clear hrow
    by_cases h0 : 0 < q
    · obtain ⟨p, rfl⟩ : ∃ p, q = p + 1 := ⟨q - 1, by omega⟩
      have h0i : (0 : Int) < ((p + 1 : Nat) : Int) := by omega
      go_wp2_with (first | (at_builtin; go_loud (refine wpList_appZ iC _ rfl _ _ _ rfl k.v.heap.size ?_ _ _ _ _ Try.underlying35 infoI64d rfl (by omega) (fun _ => ⟨rfl, by simp [iC, Value.oneCell']⟩) (.slice A1 D.length c1) D rfl ((HROW.out.alloc _)) y _ _ rfl (cellsB (by simp)) ?_ ?_ ?_; (· exact LeB.h); (· omega); (· omega); intro v2 kk2 hA2; obtain ⟨A2, c2, rfl, hO2, hF2⟩ := Ow.of_row (f := iC) (fun _ => rfl) hA2.own; haveI hs2 := Src.exb (inferInstance : Src _ b n') kk2 hbk)) | (go_at_call 41; go_loud (refine (among_l 10000000000 b _ _ _ _ _ _ ?_ ?_ ?_ ?_ ?_ ?_ ?_).mono ?_); (· simp); (· exact (inferInstance : LtW b _).h); (· omega); (· omega); (· omega); (· rfl); (· repeat (first | exact trivial | refine ⟨⟨_, rfl, by omega, by omega⟩, ?_⟩)); rintro e w' ⟨x, ⟨hx1, hx2⟩, rfl, k3, rfl⟩))
      go_roundw
      case rel =>
        exact ⟨p, D ++ [y], A2, c2, y + x, n' + 2, by omega, by go_num, by go_num, by simp, by simp; omega, by omega, ⟨by omega, by omega⟩, DrK.fin2 (p := fun W => W.ownsRow k.v.heap.size 2 1 (.slice A2 (D ++ [y]).length c2) (D ++ [y]).length ((D ++ [y]).flatMap iC)) (DrK.dr (DrK.alloc (DrK.exb (DrK.alloc (n := n') ⟨j0.lo, j0.size, j0.keep⟩ _) kk2 (Nat.le_refl _) hbk) _) k3) (Nat.le_refl _) (ownsRow_dr (hA2.own.alloc _) k3 hbk)⟩
      case measure => simp [intOf]
    · obtain rfl : q = 0 := by omega
      go_wp2_with (first | (go_at_call 47; go_loud (refine (pick_any b _ _ ?_ ?_).mono ?_); (· omega); (· omega); rintro e w' ⟨x, ⟨hx1, hx2⟩, rfl, k3, rfl⟩) | (go_at_call 41; go_loud (refine (among_l 10000000000 b _ _ _ _ _ _ ?_ ?_ ?_ ?_ ?_ ?_ ?_).mono ?_); (· simp); (· exact (inferInstance : LtW b _).h); (· omega); (· omega); (· omega); (· rfl); (· repeat (first | exact trivial | refine ⟨⟨_, rfl, by omega, by omega⟩, ?_⟩)); rintro e w' ⟨z, ⟨hz1, hz2⟩, rfl, k4, rfl⟩) | (at_builtin; go_loud (refine wpList_appZ iC _ rfl _ _ _ rfl k.v.heap.size ?_ _ _ _ _ Try.underlying35 infoI64d rfl (by omega) (fun _ => ⟨rfl, by simp [iC, Value.oneCell']⟩) (.slice A1 D.length c1) D rfl ((ownsRow_dr ((ownsRow_dr HROW.out k3 hbk).alloc _) k4 hbk).alloc _) z _ _ rfl (cellsB (by simp)) ?_ ?_ ?_; (· exact LeB.h); (· omega); (· omega); intro v2 kk2 hA2; obtain ⟨A2, c2, rfl, hO2, hF2⟩ := Ow.of_row (f := iC) (fun _ => rfl) hA2.own; haveI hs2 := Src.exb (inferInstance : Src _ b (n' + 2 + 2)) kk2 hbk)))
      · go_ret
        exact ⟨A2, c2, D ++ [z], by simp; omega, by first | rfl | (simp; done), ex_and (fun W => Rd 1 iC W A2 (D ++ [z])) (by (refine Ok.toEx ?_; (repeat (first | (with_reducible exact Ok.rf _) | (with_reducible refine Ok.alloc ?_ _) | (with_reducible refine Ok.ex ?_ _) | (with_reducible refine Ok.dr ?_ _) | (with_reducible refine Ok.drew ?_) | (with_reducible refine Ok.setCellI ?_ _ _ _) | (with_reducible refine Ok.exb ?_ _))))) inferInstance⟩
      · go_ret
        exact ⟨some ⟨k4.v.heap.size, 0, none⟩, 2, [5, 5 + z], by simp, by first | rfl | (simp; done), ex_and (fun W => Rd 1 iC W (some ⟨k4.v.heap.size, 0, none⟩) [5, 5 + z]) (by (refine Ok.toEx ?_; (repeat (first | (with_reducible exact Ok.rf _) | (with_reducible refine Ok.alloc ?_ _) | (with_reducible refine Ok.ex ?_ _) | (with_reducible refine Ok.dr ?_ _) | (with_reducible refine Ok.drew ?_) | (with_reducible refine Ok.setCellI ?_ _ _ _) | (with_reducible refine Ok.exb ?_ _))))) (rd_two _ _ _ _ _ rfl)⟩
      · obtain ⟨A2, c2, he, hO2, hF2⟩ := Ow.of_row (f := iC) (fun _ => rfl) (ownsRow_dr HROW.out k3 hbk)
        cases he
        go_ret
        exact ⟨A1, c1, D, by omega, by first | rfl | (simp; done), ex_and (fun W => Rd 1 iC W A1 D) (by (refine Ok.toEx ?_; (repeat (first | (with_reducible exact Ok.rf _) | (with_reducible refine Ok.alloc ?_ _) | (with_reducible refine Ok.ex ?_ _) | (with_reducible refine Ok.dr ?_ _) | (with_reducible refine Ok.drew ?_) | (with_reducible refine Ok.setCellI ?_ _ _ _) | (with_reducible refine Ok.exb ?_ _))))) inferInstance⟩
end
end Go.Proofs.Ytpapphhbogngcaa
