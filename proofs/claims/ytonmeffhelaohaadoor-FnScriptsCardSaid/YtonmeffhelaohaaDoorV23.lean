/-
  The draw of scripts. Conditions: those typed at each theorem.
-/
import Derived.Test.YtonmeffhelaohaaDoorV19
import Derived.Test.YtonmeffhelaohaaDoorV9
import Derived.Test.YtonmeffhelaohaaDoorV11
import Derived.Deep.Cut
import Derived.Deep.CutRange
namespace Go.Proofs.YtonmeffhelaohaaDoor
open Go.RowKit
/-- a drawn line: small -/
def Ln.dk (x : Ln) : Prop := (0 ≤ x.kind ∧ x.kind ≤ 10) ∧ x.name.size ≤ 1000 ∧ 0 ≤ x.value ∧ x.value ≤ 100000
theorem Ln.dk.ok {x : Ln} (h : x.dk) : x.ok := by
  obtain ⟨⟨h1, h2⟩, h3, h4, h5⟩ := h
  exact ⟨by omega, by omega, by omega, by omega, by omega⟩
def topB : ByteArray := ⟨#[116, 111, 112]⟩
def midB : ByteArray := ⟨#[109, 105, 100]⟩
/-- the script that is drawn where no other is valid -/
def litL (v : Int) : List Ln := [⟨1, topB, 0⟩, ⟨3, ⟨#[97]⟩, 0⟩, ⟨2, ⟨#[]⟩, 100⟩, ⟨4, topB, v⟩]
theorem okN_small (a : Array UInt8) (h0 : 0 < a.size) (h1 : a.size ≤ 10) (h : ∀ i (hi : i < a.size), 97 ≤ a[i].toNat ∧ a[i].toNat ≤ 122) : okN ⟨a⟩ := by
  refine ⟨h1, h0, ?_, fun i hi => .inl ?_⟩
  · have := h 0 h0
    show (97 : Int) ≤ (a[0].toNat : Int) ∧ (a[0].toNat : Int) ≤ 122
    omega
  · have := h i hi
    show (97 : Int) ≤ (a[i].toNat : Int) ∧ (a[i].toNat : Int) ≤ 122
    omega
theorem okN_top : okN topB := okN_small _ (by decide) (by decide) (by decide)
theorem okN_a : okN ⟨#[97]⟩ := okN_small _ (by decide) (by decide) (by decide)
theorem lit_lbl (v : Int) : lbl (litL v) topB = 0 := by
  have : lbl (litL v) topB = ((0 : Nat) : Int) := lbl_hit (l := litL v) (nm := topB) (k := 0) (by simp [litL]) ⟨rfl, by simp [litL]⟩ (fun j hj => absurd hj (by omega))
  rw [this]; rfl
theorem lit_ok {v : Int} (h0 : 1 ≤ v) (h1 : v ≤ 5) : vL (litL v) = true := by
  have hl := lit_lbl v
  refine vL_yes ⟨by simp [litL], fun i hi => ?_⟩
  have hi4 : i < 4 := hi
  rcases i with _ | _ | _ | _ | i
  · refine ⟨?_, fun _ => hl, fun e => ?_⟩
    · show vOne ⟨1, topB, 0⟩ = true
      unfold vOne; simp [okN_top]
    · exact absurd (show (1 : Int) = 4 from e) (by omega)
  · refine ⟨?_, fun e => ?_, fun e => ?_⟩
    · show vOne ⟨3, ⟨#[97]⟩, 0⟩ = true
      unfold vOne; simp [okN_a]
    · exact absurd (show (3 : Int) = 1 from e) (by omega)
    · exact absurd (show (3 : Int) = 4 from e) (by omega)
  · refine ⟨?_, fun e => ?_, fun e => ?_⟩
    · show vOne ⟨2, ⟨#[]⟩, 100⟩ = true
      unfold vOne; simp [ByteArray.toList_eq]
    · exact absurd (show (2 : Int) = 1 from e) (by omega)
    · exact absurd (show (2 : Int) = 4 from e) (by omega)
  · refine ⟨?_, fun e => ?_, fun _ => ?_⟩
    · show vOne ⟨4, topB, v⟩ = true
      unfold vOne; simp [okN_top]; omega
    · exact absurd (show (4 : Int) = 1 from e) (by omega)
    · show 0 ≤ lbl (litL v) topB
      rw [hl]; omega
  · omega
theorem rd_lit4 (w : World) (g : Nat) (v : Int) (t : TypeId) (hg : g = w.heap.size) :
    Rd 3 Ln.cells (w.alloc (.cells #[.int .i64 1, .string topB, .int .i64 0, .int .i64 3, .string ⟨#[97]⟩, .int .i64 0, .int .i64 2, .string ⟨#[]⟩, .int .i64 100, .int .i64 4, .string topB, .int .i64 v] t)) (some ⟨g, 0, none⟩) (litL v) := by
  subst hg
  exact ⟨by simp [litL], fun _ => ⟨w.heap.size, 0, rfl, inferInstance, fun k hk j u hu => by
    have hk4 : k < 4 := hk
    have hj : j < 3 := by
      rcases j with _ | _ | _ | j
      · omega
      · omega
      · omega
      · rcases k with _ | _ | _ | _ | k <;> simp [Ln.cells, litL] at hu
    rcases k with _ | _ | _ | _ | k
    · rcases j with _ | _ | _ | j
      · simp [Ln.cells, litL] at hu; subst hu; simp [go_sem]
      · simp [Ln.cells, litL] at hu; subst hu; simp [go_sem]
      · simp [Ln.cells, litL] at hu; subst hu; simp [go_sem]
      · omega
    · rcases j with _ | _ | _ | j
      · simp [Ln.cells, litL] at hu; subst hu; simp [go_sem]
      · simp [Ln.cells, litL] at hu; subst hu; simp [go_sem]
      · simp [Ln.cells, litL] at hu; subst hu; simp [go_sem]
      · omega
    · rcases j with _ | _ | _ | j
      · simp [Ln.cells, litL] at hu; subst hu; simp [go_sem]
      · simp [Ln.cells, litL] at hu; subst hu; simp [go_sem]
      · simp [Ln.cells, litL] at hu; subst hu; simp [go_sem]
      · omega
    · rcases j with _ | _ | _ | j
      · simp [Ln.cells, litL] at hu; subst hu; simp [go_sem]
      · simp [Ln.cells, litL] at hu; subst hu; simp [go_sem]
      · simp [Ln.cells, litL] at hu; subst hu; simp [go_sem]
      · omega
    · omega⟩⟩
section
set_option maxHeartbeats 3200000
set_option maxRecDepth 20000
theorem drawLine_any (b : Nat) {n : Nat} (w : World) [hs : Src w b n] (hn : n ≤ 10000000) :
    Calls Tryd.prog 60 #[.pointer (some ⟨b, 0, none⟩)] w fun e w' => ∃ x : Ln, x.dk ∧ e = .returned (.agg #[.int .i64 x.kind, .string x.name, .int .i64 x.value]) ∧ ∃ k : Dr b (n + 8) w, w' = k.v := by
  go_enter Tryd.func60, Tryd.ntmps60
  go_wp2_with (first | (go_at_call 80; go_loud (refine (text_lit b _ _ _ _ _ _ ?_ ?_ ?_ ?_ ?_ ?_ ?_).mono ?_); (· simp); (· exact (inferInstance : LtW b _).h); (· omega); (· omega); (· omega); (· rfl); (· rfl); rintro e w' ⟨s, hs, rfl, k, rfl⟩) | (go_at_call 59; go_loud (refine (pick_any b _ _ ?_ ?_).mono ?_); (· omega); (· omega); rintro e w' ⟨x, ⟨hx1, hx2⟩, rfl, k, rfl⟩) | (go_at_call 81; go_loud (refine (srcOne_any b _ _ ?_ ?_).mono ?_); (· omega); (· omega); rintro e w' ⟨x, rfl, k, rfl⟩))
  all_goals
    refine bodyPost_ret (v := _) (by simp [results, Tryd.results60, go_sem]; rfl) rfl ?_
    refine ⟨⟨_, _, _⟩, ?_, rfl, (DrK.fin (by (repeat (first | (with_reducible exact DrK.rf _ _) | (with_reducible refine DrK.alloc ?_ _) | (with_reducible refine DrK.dr ?_ _) | (with_reducible refine DrK.ex ?_ _) | (with_reducible refine DrK.drew ?_) | (with_reducible refine DrK.set ?_ _ _ _)))) (by omega))⟩
    unfold Ln.dk
    dsimp only
    first | (refine ⟨⟨by omega, by omega⟩, by first | omega | exact Nat.zero_le _, by omega, by omega⟩)
/-- the lines drawn so far, in an own row -/
def DL (b B : Nat) (w : World) (m M : Nat) (v : Value) (wr : World) : Prop := ∃ (l : List Ln) (A1 : Option Addr) (c1 n' : Nat), v = .slice A1 l.length c1 ∧ l.length ≤ m ∧ n' ≤ M ∧ (∀ x ∈ l, x.dk) ∧ ∃ j : Dr b n' w, wr = j.v ∧ j.v.ownsRow B 62 3 (.slice A1 l.length c1) l.length (l.flatMap Ln.cells)
theorem infoLnD : (Tryd.prog.info? 62).map (fun i => (i.zero, i.size, i.bytes)) = some (some (.agg #[.int .i64 0, .string ⟨#[]⟩, .int .i64 0]), 3, 32) := by kernel_rfl
theorem drawSc_any (b : Nat) {n : Nat} (w : World) [hs : Src w b n] (hn : n ≤ 1000000) :
    Calls Tryd.prog 34 #[.pointer (some ⟨b, 0, none⟩)] w fun e w' => ∃ (A : Option Addr) (c : Nat) (m : List Ln), vL m = true ∧ Oks m ∧ m.length ≤ c ∧ e = .returned (.slice A m.length c) ∧ ∃ k : Dr b (n + 200) w, w' = k.v ∧ Rd 3 Ln.cells k.v A m := by
  have hbk : b < w.heap.size := hs.lt
  go_enter Tryd.func34, Tryd.ntmps34
  go_upto_if 9 with ((go_at_call 59; go_loud (refine (pick_any b _ _ ?_ ?_).mono ?_); (· omega); (· omega); rintro e w' ⟨x, ⟨hx1, hx2⟩, rfl, k, rfl⟩))
  have HR0 := hid (ownsRow_dr (row_made w w.heap.size (Nat.le_refl _) 62 3 Ln.cells) k hbk)
  go_cut [3] from 9 to 14 (fun v wx => DL b w.heap.size w 1 (n + 2) v wx)
  case first =>
    by_cases h0 : 0 < x
    · go_wp2_with ((at_builtin; go_loud (refine wpList_appZ Ln.cells _ rfl _ _ _ rfl w.heap.size ?_ _ _ _ _ Tryd.underlying28 infoLnD rfl (by omega) (fun _ => ⟨rfl, by simp [Ln.cells, Value.oneCell']⟩) (.slice (some ⟨w.heap.size, 0, none⟩) 0 0) (([] : List Ln)) rfl ((HR0.out.alloc _)) ((⟨1, topB, 0⟩ : Ln)) _ _ rfl (cellsB (by simp [Ln.cells])) ?_ ?_ ?_; (· exact LeB.h); (· (try simp); (try omega)); (· (try simp); (try omega)); intro v2 kk2 hA2; obtain ⟨A2, c2, rfl, hO2, hF2⟩ := Ow.of_row (f := Ln.cells) (fun _ => rfl) hA2.own; haveI hs2 := Src.exb (inferInstance : Src _ b (n + 2)) kk2 hbk)))
      go_meet
      case rel => exact ⟨[⟨1, topB, 0⟩], A2, c2, n + 2, rfl, Nat.le_refl _, Nat.le_refl _, fun y hy => by obtain rfl := List.mem_singleton.1 hy; exact ⟨⟨by decide, by decide⟩, by decide, by decide, by decide⟩, DrK.fin2 (p := fun W => W.ownsRow w.heap.size 62 3 (.slice A2 1 c2) 1 ([(⟨1, topB, 0⟩ : Ln)].flatMap Ln.cells)) (DrK.exb (DrK.alloc (DrK.dr (DrK.alloc (n := n) (DrK.rf b _) _) k) _) kk2 (Nat.le_refl _) hbk) (Nat.le_refl _) hA2.own⟩
    · go_wp2_with (fail)
      go_meet
      case rel => exact ⟨[], some ⟨w.heap.size, 0, none⟩, 0, n + 2, rfl, Nat.zero_le _, Nat.le_refl _, fun y hy => by simp at hy, DrK.fin2 (p := fun W => W.ownsRow w.heap.size 62 3 (.slice (some ⟨w.heap.size, 0, none⟩) 0 0) 0 []) (DrK.dr (DrK.alloc (n := n) (DrK.rf b _) _) k) (Nat.le_refl _) HR0.out⟩
  case rest =>
    obtain ⟨l, A1, c1, n1, rfl, hl, hn1, hdk, j1, rfl, hrow⟩ := hcut
    have HROW := hid hrow
    have HDK := hid hdk
    clear hrow hdk
    go_wp2_with ((go_at_call 59; go_loud (refine (pick_any b _ _ ?_ ?_).mono ?_); (· omega); (· omega); rintro e w' ⟨y, ⟨hy1, hy2⟩, rfl, k4, rfl⟩))
    go_loopw [3, 4] (fun v t wr => ∃ q : Nat, q ≤ 3 ∧ t = .int .i64 q ∧ DL b w.heap.size w (4 - q) (n + 100 - 20 * q) v wr) (fun _ t _ => (intOf t).toNat)
    case atStart =>
      obtain ⟨q, rfl⟩ := Int.eq_ofNat_of_zero_le hy1
      exact ⟨q, by omega, rfl, l, A1, c1, n1 + 2, rfl, by omega, by omega, HDK.out, DrK.fin2 (p := fun W => W.ownsRow w.heap.size 62 3 (.slice A1 l.length c1) l.length (l.flatMap Ln.cells)) (DrK.dr (b := b) (a := w) ⟨j1.lo, j1.size, j1.keep⟩ k4) (Nat.le_refl _) (ownsRow_dr HROW.out k4 hbk)⟩
    case round =>
      obtain ⟨q, hq, rfl, l, A1, c1, n1, rfl, hl, hn1, hdk, j1, rfl, hrow⟩ := hrel
      have HROW := hid hrow
      have HDK := hid hdk
      clear hrow hdk
      by_cases h0 : 0 < q
      · obtain ⟨p, rfl⟩ : ∃ p, q = p + 1 := ⟨q - 1, by omega⟩
        have h0i : (0 : Int) < ((p + 1 : Nat) : Int) := by omega
        go_wp2_with (first | (go_at_call 60; go_loud (refine (drawLine_any b _ ?_).mono ?_; (· omega); rintro e w' ⟨x, hx, rfl, k, rfl⟩)) | (at_builtin; go_loud (refine wpList_appZ Ln.cells _ rfl _ _ _ rfl w.heap.size ?_ _ _ _ _ Tryd.underlying28 infoLnD rfl (by omega) (fun _ => ⟨rfl, by simp [Ln.cells, Value.oneCell']⟩) (.slice A1 l.length c1) (l) rfl (((ownsRow_dr HROW.out k hbk).alloc _)) (x) _ _ rfl (cellsB (by simp [Ln.cells])) ?_ ?_ ?_; (· exact LeB.h); (· (try simp); (try omega)); (· (try simp); (try omega)); intro v2 kk2 hA2; obtain ⟨A2, c2, rfl, hO2, hF2⟩ := Ow.of_row (f := Ln.cells) (fun _ => rfl) hA2.own; haveI hs2 := Src.exb (inferInstance : Src _ b (n1 + 8)) kk2 hbk)))
        go_roundw
        case rel =>
          exact ⟨p, by omega, by go_num, l ++ [x], A2, c2, n1 + 8, by simp, by simp; omega, by omega, fun y hy => by
            rcases List.mem_append.1 hy with h | h
            · exact HDK.out y h
            · obtain rfl := List.mem_singleton.1 h; exact hx, DrK.fin2 (p := fun W => W.ownsRow w.heap.size 62 3 (.slice A2 (l ++ [x]).length c2) (l ++ [x]).length ((l ++ [x]).flatMap Ln.cells)) (DrK.exb (DrK.alloc (DrK.dr (b := b) (a := w) ⟨j1.lo, j1.size, j1.keep⟩ k) _) kk2 (Nat.le_refl _) hbk) (Nat.le_refl _) hA2.own⟩
        case measure => simp [intOf]
      · obtain rfl : q = 0 := by omega
        go_upto_if 27 with ((go_at_call 59; go_loud (refine (pick_any b _ _ ?_ ?_).mono ?_); (· omega); (· omega); rintro e w' ⟨z, ⟨hz1, hz2⟩, rfl, k5, rfl⟩))
        go_cut [3] from 27 to 32 (fun v wx => DL b w.heap.size w 5 (n + 110) v wx)
        case first =>
          by_cases h0 : 0 < z
          · go_wp2_with ((at_builtin; go_loud (refine wpList_appZ Ln.cells _ rfl _ _ _ rfl w.heap.size ?_ _ _ _ _ Tryd.underlying28 infoLnD rfl (by omega) (fun _ => ⟨rfl, by simp [Ln.cells, Value.oneCell']⟩) (.slice A1 l.length c1) (l) rfl ((ownsRow_dr HROW.out k5 hbk).alloc _) ((⟨1, midB, 0⟩ : Ln)) _ _ rfl (cellsB (by simp [Ln.cells])) ?_ ?_ ?_; (· exact LeB.h); (· (try simp); (try omega)); (· (try simp); (try omega)); intro v2 kk2 hA2; obtain ⟨A2, c2, rfl, hO2, hF2⟩ := Ow.of_row (f := Ln.cells) (fun _ => rfl) hA2.own; haveI hs2 := Src.exb (inferInstance : Src _ b (n1 + 2)) kk2 hbk)))
            go_meet
            case rel => exact ⟨l ++ [⟨1, midB, 0⟩], A2, c2, n1 + 2, by simp, by simp; omega, by omega, fun y hy => by
              rcases List.mem_append.1 hy with h | h
              · exact HDK.out y h
              · obtain rfl := List.mem_singleton.1 h; exact ⟨⟨by decide, by decide⟩, by decide, by decide, by decide⟩, DrK.fin2 (p := fun W => W.ownsRow w.heap.size 62 3 (.slice A2 (l ++ [(⟨1, midB, 0⟩ : Ln)]).length c2) (l ++ [(⟨1, midB, 0⟩ : Ln)]).length ((l ++ [(⟨1, midB, 0⟩ : Ln)]).flatMap Ln.cells)) (DrK.exb (DrK.alloc (DrK.dr (b := b) (a := w) ⟨j1.lo, j1.size, j1.keep⟩ k5) _) kk2 (Nat.le_refl _) hbk) (Nat.le_refl _) hA2.own⟩
          · go_wp2_with (fail)
            go_meet
            case rel => exact ⟨l, A1, c1, n1 + 2, rfl, by omega, by omega, HDK.out, DrK.fin2 (p := fun W => W.ownsRow w.heap.size 62 3 (.slice A1 l.length c1) l.length (l.flatMap Ln.cells)) (DrK.dr (b := b) (a := w) ⟨j1.lo, j1.size, j1.keep⟩ k5) (Nat.le_refl _) (ownsRow_dr HROW.out k5 hbk)⟩
        case rest =>
          obtain ⟨l, A1, c1, n1, rfl, hl, hn1, hdk, j1, rfl, hrow⟩ := hcut
          have HROW := hid hrow
          have HDK := hid hdk
          clear hrow hdk
          go_wp2_with ((go_at_call 59; go_loud (refine (pick_any b _ _ ?_ ?_).mono ?_); (· omega); (· omega); rintro e w' ⟨y5, ⟨hy51, hy52⟩, rfl, k4, rfl⟩))
          go_loopw [3, 5] (fun v t wr => ∃ q : Nat, q ≤ 4 ∧ t = .int .i64 q ∧ DL b w.heap.size w (9 - q) (n + 196 - 20 * q) v wr) (fun _ t _ => (intOf t).toNat)
          case atStart =>
            obtain ⟨q, rfl⟩ := Int.eq_ofNat_of_zero_le hy51
            exact ⟨q, by omega, rfl, l, A1, c1, n1 + 2, rfl, by omega, by omega, HDK.out, DrK.fin2 (p := fun W => W.ownsRow w.heap.size 62 3 (.slice A1 l.length c1) l.length (l.flatMap Ln.cells)) (DrK.dr (b := b) (a := w) ⟨j1.lo, j1.size, j1.keep⟩ k4) (Nat.le_refl _) (ownsRow_dr HROW.out k4 hbk)⟩
          case round =>
            obtain ⟨q, hq, rfl, l, A1, c1, n1, rfl, hl, hn1, hdk, j1, rfl, hrow⟩ := hrel
            have HROW := hid hrow
            have HDK := hid hdk
            clear hrow hdk
            by_cases h0 : 0 < q
            · obtain ⟨p, rfl⟩ : ∃ p, q = p + 1 := ⟨q - 1, by omega⟩
              have h0i : (0 : Int) < ((p + 1 : Nat) : Int) := by omega
              go_wp2_with (first | (go_at_call 60; go_loud (refine (drawLine_any b _ ?_).mono ?_; (· omega); rintro e w' ⟨x, hx, rfl, k, rfl⟩)) | (at_builtin; go_loud (refine wpList_appZ Ln.cells _ rfl _ _ _ rfl w.heap.size ?_ _ _ _ _ Tryd.underlying28 infoLnD rfl (by omega) (fun _ => ⟨rfl, by simp [Ln.cells, Value.oneCell']⟩) (.slice A1 l.length c1) (l) rfl (((ownsRow_dr HROW.out k hbk).alloc _)) (x) _ _ rfl (cellsB (by simp [Ln.cells])) ?_ ?_ ?_; (· exact LeB.h); (· (try simp); (try omega)); (· (try simp); (try omega)); intro v2 kk2 hA2; obtain ⟨A2, c2, rfl, hO2, hF2⟩ := Ow.of_row (f := Ln.cells) (fun _ => rfl) hA2.own; haveI hs2 := Src.exb (inferInstance : Src _ b (n1 + 8)) kk2 hbk)))
              go_roundw
              case rel =>
                exact ⟨p, by omega, by go_num, l ++ [x], A2, c2, n1 + 8, by simp, by simp; omega, by omega, fun y hy => by
                  rcases List.mem_append.1 hy with h | h
                  · exact HDK.out y h
                  · obtain rfl := List.mem_singleton.1 h; exact hx, DrK.fin2 (p := fun W => W.ownsRow w.heap.size 62 3 (.slice A2 (l ++ [x]).length c2) (l ++ [x]).length ((l ++ [x]).flatMap Ln.cells)) (DrK.exb (DrK.alloc (DrK.dr (b := b) (a := w) ⟨j1.lo, j1.size, j1.keep⟩ k) _) kk2 (Nat.le_refl _) hbk) (Nat.le_refl _) hA2.own⟩
              case measure => simp [intOf]
            · obtain rfl : q = 0 := by omega
              have hcp := (own_cap HROW.out).1
              obtain ⟨A2, c2, he, hO, hF⟩ := Ow.of_row (f := Ln.cells) (fun _ => rfl) HROW.out
              cases he
              haveI hO' := hO
              haveI hok : Oks l := ⟨fun y hy => (HDK.out y hy).ok⟩
              cases hv : vL l
              · have HV := hid hv
                clear hv
                go_wp2_with (first | (go_at_call 51; go_loud (refine (l15Ok_any _ _ l _ (by omega)).mono ?_; rw [HV.out]; rintro e w' ⟨rfl, k8, rfl⟩)) | (go_at_call 59; go_loud (refine (pick_any b _ _ ?_ ?_).mono ?_); (· omega); (· omega); rintro e w' ⟨z4, ⟨hz41, hz42⟩, rfl, k9, rfl⟩))
                go_ret
                refine ⟨some ⟨k9.v.heap.size, 0, none⟩, 4, litL (1 + z4), lit_ok (by omega) (by omega), ⟨fun y hy => ?_⟩, Nat.le_refl _, rfl, DrK.fin2 (p := fun W => Rd 3 Ln.cells W (some ⟨k9.v.heap.size, 0, none⟩) (litL (1 + z4))) (DrK.alloc (DrK.dr (DrK.ex (DrK.dr (b := b) (a := w) (DrK.rf b w) j1) k8) k9) _) (by omega) (rd_lit4 _ _ _ _ rfl)⟩
                simp only [litL, List.mem_cons, List.not_mem_nil, or_false] at hy
                rcases hy with rfl | rfl | rfl | rfl
                · exact Ln.dk.ok ⟨⟨by decide, by decide⟩, by decide, by decide, by decide⟩
                · exact Ln.dk.ok ⟨⟨by decide, by decide⟩, by decide, by decide, by decide⟩
                · exact Ln.dk.ok ⟨⟨by decide, by decide⟩, by decide, by decide, by decide⟩
                · exact Ln.dk.ok ⟨⟨by show (0 : Int) ≤ 4; decide, by show (4 : Int) ≤ 10; decide⟩, by show topB.size ≤ 1000; decide, by show 0 ≤ 1 + z4; omega, by show 1 + z4 ≤ 100000; omega⟩
              · have HV := hid hv
                clear hv
                go_wp2_with (go_at_call 51; go_loud (refine (l15Ok_any _ _ l _ (by omega)).mono ?_; rw [HV.out]; rintro e w' ⟨rfl, k8, rfl⟩))
                go_ret
                exact ⟨A1, c1, l, HV.out, hok, hcp, rfl, DrK.fin2 (p := fun W => Rd 3 Ln.cells W A1 l) (DrK.ex (DrK.dr (b := b) (a := w) (DrK.rf b w) j1) k8) (by omega) inferInstance⟩
theorem r8sc_any (A : Option Addr) (c : Nat) (l : List Int) (w : World) [hl : Rd 1 byC w A l] (hb : ∀ x ∈ l, 0 ≤ x ∧ x ≤ 255) :
    Calls Tryd.prog 14 #[.slice A l.length c] w fun e w' => ∃ (A' : Option Addr) (c' : Nat) (m : List Ln), vL m = true ∧ Oks m ∧ m.length ≤ c' ∧ e = .returned (.slice A' m.length c') ∧ ∃ k : Ex w, w' = k.v ∧ Rd 3 Ln.cells k.v A' m := by
  go_enter Tryd.func14, Tryd.ntmps14
  go_wp2_with (first | (go_at_call 33; go_loud (refine (from_any _ _ l _ hb).mono ?_; rintro e w' ⟨rfl, k, rfl, hs⟩)) | (go_at_call 34; go_loud (refine (drawSc_any w.heap.size _ ?_).mono ?_; (· omega); rintro e w' ⟨A', c', m, hv, hk, hcap, rfl, k2, rfl, hr⟩)))
  go_ret
  exact ⟨A', c', m, hv, hk, hcap, rfl, ⟨k2.v, k.h.trans (k2.lo.mono (Nat.le_refl _))⟩, rfl, hr⟩
end
end Go.Proofs.YtonmeffhelaohaaDoor
