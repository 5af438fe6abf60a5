/-
  The draws of the questions about parts of tracks. Conditions: those typed at each theorem.
-/
import Derived.Test.YtpapphhbogngcaaTrDr
namespace Go.Proofs.Ytpapphhbogngcaa
open Go.RowKit
section
set_option maxHeartbeats 3200000
set_option maxRecDepth 20000
theorem rd_set {α : Type} {sz : Nat} {f : α → List Value} {w : World} {A : Option Addr} {l : List α} (h : Rd sz f w A l) {x o : Nat} (v : Value) (hA : ∀ x' o', A = some ⟨x', o', none⟩ → x' ≠ x) : Rd sz f (w.setCell ⟨x, o, none⟩ v) A l :=
  ⟨h.len, fun h0 => by
    obtain ⟨b', o', e, hb, hc⟩ := h.at_ h0
    exact ⟨b', o', e, ⟨by rw [size_setCell']; exact hb.h⟩, fun i hi j u hu => (World.cell?_setCell_other _ _ _ _ (fun e' => hA b' o' e (congrArg Addr.block e').symm)).trans (hc i hi j u hu)⟩⟩
theorem row_mono {w : World} {base base' : Nat} {e : TypeId} {size : Nat} {v : Value} {n : Nat} {xs : List Value} (h : w.ownsRow base e size v n xs) (hb : base' ≤ base) : w.ownsRow base' e size v n xs := by
  refine ⟨h.1, ?_⟩
  rcases h.2 with h2 | ⟨g, cap, cur, h1, h2, h3⟩
  · exact .inl h2
  · exact .inr ⟨g, cap, cur, h1, Nat.le_trans hb h2, h3⟩
/-- a drawn track -/
def TkP (b m : Nat) (w : World) (e : Ending) (w' : World) : Prop := ∃ (nm' : ByteArray) (A' : Option Addr) (c' : Nat) (l' : List Ky), nm'.size ≤ 1000 ∧ l'.length ≤ 100 ∧ e = .returned (.agg #[.string nm', .slice A' l'.length c']) ∧ ∃ k : Dr b m w, w' = k.v ∧ Rd 2 kC k.v A' l' ∧ FarA w.heap.size A'
theorem drawTk_any (b : Nat) {n : Nat} (w : World) [hs : Src w b n] (hn : n ≤ 100000) :
    Calls Try.prog 55 #[.pointer (some ⟨b, 0, none⟩)] w (TkP b (n + 200) w) := by
  go_enter Try.func55, Try.ntmps55
  have hbw : b < w.heap.size := hs.lt
  go_wp2_with (first | (go_at_call 86; go_loud (refine (text_lit b _ _ _ _ _ _ ?_ ?_ ?_ ?_ ?_ ?_ ?_).mono ?_); (· simp); (· exact (inferInstance : LtW b _).h); (· omega); (· omega); (· omega); (· rfl); (· rfl); rintro e w' ⟨s, hs, rfl, k, rfl⟩) | (go_at_call 85; go_loud ((refine (drawTkOk_any b s _ ?_).mono ?_); (· omega); rintro e w' ⟨A, c, l, h1, h2, rfl, k2, rfl, hrow⟩)) | (go_at_call 84; go_loud ((refine (bend_any (w.alloc (.cells #[.string ⟨#[]⟩, .slice none 0 0] 56)) b (w.heap.size + 1) s A c l _ ?_ h1 h2 hs ?_ ?_ ?_).mono ?_); (· omega); (· exact hid (DrK.dr (DrK.dr (DrK.alloc (DrK.rf b _) _) k) k2)); (· simp); (· exact hid (row_mono hrow (Nat.le_trans (by have := k.size; simp at this; omega) (Nat.le_add_right _ 2)))); rintro e w' ⟨nm', A', c', l', g1, g2, rfl, k3, rfl, hr, hna⟩)))
  refine bodyPost_ret (v := _) (by simp [results, Try.results55, go_sem]; rfl) rfl ?_
  refine ⟨nm', A', c', l', g1, g2, rfl, DrK.fin2 (p := fun W => Rd 2 kC W A' l' ∧ FarA w.heap.size A') (DrK.set (DrK.set (DrK.dr (DrK.alloc (n := n) (DrK.rf b w) _) k3) _ _ _) _ _ _) (by omega) ⟨rd_set (rd_set hr _ fun x o e => by have := hna x o e; omega) _ fun x o e => by have := hna x o e; omega, fun x o e => by have := hna x o e; omega⟩⟩
theorem drawTm_any (b : Nat) {n : Nat} (A : Option Addr) (c : Nat) (l : List Ky) (g : Nat) (w : World) [hs : Src w b n] [hg : LtW g w] [hng : NeB g b] [hr : Rd 2 kC w A l] [hA : NaB b A] (hn : n ≤ 100000) (hl : l.length ≤ 100) (c1 : w.cell? ⟨g, 1, none⟩ = some (.slice A l.length c)) :
    Calls Try.prog 56 #[.pointer (some ⟨b, 0, none⟩), .pointer (some ⟨g, 0, none⟩)] w (DrInt b (n + 10) (fun _ => True) w) := by
  by_cases h0 : 0 < l.length
  · obtain ⟨g', o, rfl, hg', hc⟩ := hr.at_ h0
    haveI : NeB g' b := ⟨hA.h g' o rfl⟩
    have HC := hid hc
    clear hc hr hA
    have h0i : (0 : Int) < (l.length : Int) := by omega
    go_enter Try.func56, Try.ntmps56
    go_upto_region 4 with (first | (go_at_call 57; go_loud (refine (srcOne_any b _ _ ?_ ?_).mono ?_); (· omega); (· omega); rintro e w' ⟨x, rfl, k, rfl⟩) | (go_at_call 41; go_loud (refine (among_l 7200001 b _ _ _ _ _ _ ?_ ?_ ?_ ?_ ?_ ?_ ?_).mono ?_); (· simp); (· exact (inferInstance : LtW b _).h); (· omega); (· omega); (· omega); (· rfl); (· repeat (first | exact trivial | refine ⟨⟨_, rfl, by omega, by omega⟩, ?_⟩)); rintro e w' ⟨y, ⟨hy1, hy2⟩, rfl, k2, rfl⟩) | (go_at_call 47; go_loud (refine (pick_any b _ _ ?_ ?_).mono ?_); (· omega); (· omega); rintro e w' ⟨x, ⟨hx1, hx2⟩, rfl, k, rfl⟩))
    · (refine bodyPost_ret (v := _) (by simp [results, Try.results56, go_sem]; rfl) rfl ?_; exact ⟨_, trivial, rfl, (DrK.fin (by (repeat (first | (with_reducible exact DrK.rf _ _) | (with_reducible refine DrK.alloc ?_ _) | (with_reducible refine DrK.dr ?_ _) | (with_reducible refine DrK.ex ?_ _) | (with_reducible refine DrK.drew ?_) | (with_reducible refine DrK.set ?_ _ _ _)))) (by omega))⟩)
    · go_region_with ((go_at_call 47; go_loud (refine (pick_any b _ _ ?_ ?_).mono ?_); (· omega); (· omega); rintro e w' ⟨x, ⟨hx1, hx2⟩, rfl, k3, rfl⟩; obtain ⟨i, rfl⟩ := Int.eq_ofNat_of_zero_le hx1; have hi : i < l.length := (by omega); have hci := HC.out i hi 0 _ rfl; have hii : (i : Int) < (l.length : Int) := (by omega); have hi0 : (0 : Int) ≤ (i : Int) := (by omega); simp only [Nat.add_zero] at hci))
      all_goals
        go_wp2
        (refine bodyPost_ret (v := _) (by simp [results, Try.results56, go_sem]; rfl) rfl ?_; exact ⟨_, trivial, rfl, (DrK.fin (by (repeat (first | (with_reducible exact DrK.rf _ _) | (with_reducible refine DrK.alloc ?_ _) | (with_reducible refine DrK.dr ?_ _) | (with_reducible refine DrK.ex ?_ _) | (with_reducible refine DrK.drew ?_) | (with_reducible refine DrK.set ?_ _ _ _)))) (by omega))⟩)
    · (refine bodyPost_ret (v := _) (by simp [results, Try.results56, go_sem]; rfl) rfl ?_; exact ⟨_, trivial, rfl, (DrK.fin (by (repeat (first | (with_reducible exact DrK.rf _ _) | (with_reducible refine DrK.alloc ?_ _) | (with_reducible refine DrK.dr ?_ _) | (with_reducible refine DrK.ex ?_ _) | (with_reducible refine DrK.drew ?_) | (with_reducible refine DrK.set ?_ _ _ _)))) (by omega))⟩)
  · obtain rfl : l = [] := List.eq_nil_of_length_eq_zero (by omega)
    go_enter Try.func56, Try.ntmps56
    go_wp2_with (first | (go_at_call 57; go_loud (refine (srcOne_any b _ _ ?_ ?_).mono ?_); (· omega); (· omega); rintro e w' ⟨x, rfl, k, rfl⟩) | (go_at_call 41; go_loud (refine (among_l 7200001 b _ _ _ _ _ _ ?_ ?_ ?_ ?_ ?_ ?_ ?_).mono ?_); (· simp); (· exact (inferInstance : LtW b _).h); (· omega); (· omega); (· omega); (· rfl); (· repeat (first | exact trivial | refine ⟨⟨_, rfl, by omega, by omega⟩, ?_⟩)); rintro e w' ⟨y, ⟨hy1, hy2⟩, rfl, k2, rfl⟩) | (go_at_call 47; go_loud (refine (pick_any b _ _ ?_ ?_).mono ?_); (· omega); (· omega); rintro e w' ⟨x, ⟨hx1, hx2⟩, rfl, k, rfl⟩))
    all_goals
      refine bodyPost_ret (v := _) (by simp [results, Try.results56, go_sem]; rfl) rfl ?_
      exact ⟨_, trivial, rfl, (DrK.fin (by (repeat (first | (with_reducible exact DrK.rf _ _) | (with_reducible refine DrK.alloc ?_ _) | (with_reducible refine DrK.dr ?_ _) | (with_reducible refine DrK.ex ?_ _) | (with_reducible refine DrK.drew ?_) | (with_reducible refine DrK.set ?_ _ _ _)))) (by omega))⟩
theorem drawCut_any (A : Option Addr) (c : Nat) (l : List Int) (w : World) [hl : Rd 1 byC w A l] (hb : ∀ x ∈ l, 0 ≤ x ∧ x ≤ 255) :
    Calls Try.prog 21 #[.slice A l.length c] w fun e w' => ∃ (nm : ByteArray) (A' : Option Addr) (c' : Nat) (l' : List Ky) (f u : Int), nm.size ≤ 1000 ∧ l'.length ≤ 100 ∧ e = .returned (.tuple #[.agg #[.string nm, .slice A' l'.length c'], .int .i64 f, .int .i64 u]) ∧ ∃ k : Ex w, w' = k.v ∧ Rd 2 kC k.v A' l' := by
  obtain ⟨b, hbw⟩ : ∃ b, b = w.heap.size + 1 := ⟨_, rfl⟩
  haveI : NeB w.heap.size b := ⟨by omega⟩
  haveI hle : LeB w.heap.size b := ⟨by omega⟩
  have HB := hid hbw
  clear hbw
  go_enter Try.func21, Try.ntmps21
  go_wp2_with (first | (go_at_call 39; go_loud (refine (from_g _ _ l b _ hb ?_).mono ?_; (· exact (by have := HB.out; simpa using this)); rintro e w' ⟨rfl, k, rfl, hs⟩)) | (go_at_call 55; go_loud ((refine (drawTk_any b _ ?_).mono ?_); (· omega); rintro e w' ⟨nm, A1, c1, l1, hn1, hl1, rfl, k1, rfl, hr1, hf1⟩; haveI hr1 := hr1; haveI hna1 : NaB b A1 := ⟨fun x o e => by have := hf1 x o e; have := hs.lt; omega⟩; have hnw : ∀ x o, A1 = some ⟨x, o, none⟩ → x ≠ w.heap.size := (fun x o e => by have := hf1 x o e; have := k.size; simp at this; omega); haveI : NeB k1.v.heap.size b := ⟨by have := k1.src.lt; omega⟩)) | (go_at_call 56; go_loud ((refine (drawTm_any b A1 c1 l1 k1.v.heap.size _ ?_ hl1 ?_).mono ?_); (· omega); (· simp [go_sem]); rintro e w' ⟨f, -, rfl, k2, rfl⟩)) | (go_at_call 57; go_loud (refine (srcOne_any b _ _ ?_ ?_).mono ?_); (· omega); (· omega); rintro e w' ⟨x, rfl, k, rfl⟩))
  · go_region_with ((go_at_call 47; go_loud (refine (pick_any b _ _ ?_ ?_).mono ?_); (· omega); (· omega); rintro e w' ⟨y, ⟨hy1, hy2⟩, rfl, k3, rfl⟩))
    all_goals
      go_wp2
      (refine bodyPost_ret (v := _) (by simp [results, Try.results21, go_sem]; rfl) rfl ?_)
      exact ⟨nm, A1, c1, l1, _, _, hn1, hl1, rfl, (ex_and (fun W => Rd 2 kC W A1 l1) (by (refine Ok.toEx ?_; (repeat (first | (with_reducible exact Ok.rf _) | (with_reducible refine Ok.alloc ?_ _) | (with_reducible refine Ok.ex ?_ _) | (with_reducible refine Ok.dr ?_ _) | (with_reducible refine Ok.drew ?_) | (with_reducible refine Ok.setCellI ?_ _ _ _) | (with_reducible refine Ok.exb ?_ _))))) (by repeat (first | (with_reducible refine rd_set ?_ _ hnw) | infer_instance)))⟩
  · go_region_with ((go_at_call 56; go_loud ((refine (drawTm_any b A1 c1 l1 k1.v.heap.size _ ?_ hl1 ?_).mono ?_); (· omega); (· simp [go_sem]); rintro e w' ⟨u, -, rfl, k3, rfl⟩)))
    all_goals
      go_wp2
      (refine bodyPost_ret (v := _) (by simp [results, Try.results21, go_sem]; rfl) rfl ?_)
      exact ⟨nm, A1, c1, l1, _, _, hn1, hl1, rfl, (ex_and (fun W => Rd 2 kC W A1 l1) (by (refine Ok.toEx ?_; (repeat (first | (with_reducible exact Ok.rf _) | (with_reducible refine Ok.alloc ?_ _) | (with_reducible refine Ok.ex ?_ _) | (with_reducible refine Ok.dr ?_ _) | (with_reducible refine Ok.drew ?_) | (with_reducible refine Ok.setCellI ?_ _ _ _) | (with_reducible refine Ok.exb ?_ _))))) (by repeat (first | (with_reducible refine rd_set ?_ _ hnw) | infer_instance)))⟩
theorem drawShift_any (A : Option Addr) (c : Nat) (l : List Int) (w : World) [hl : Rd 1 byC w A l] (hb : ∀ x ∈ l, 0 ≤ x ∧ x ≤ 255) :
    Calls Try.prog 25 #[.slice A l.length c] w fun e w' => ∃ (nm : ByteArray) (A' : Option Addr) (c' : Nat) (l' : List Ky) (u : Int), nm.size ≤ 1000 ∧ l'.length ≤ 100 ∧ e = .returned (.tuple #[.agg #[.string nm, .slice A' l'.length c'], .int .i64 u]) ∧ ∃ k : Ex w, w' = k.v ∧ Rd 2 kC k.v A' l' := by
  obtain ⟨b, hbw⟩ : ∃ b, b = w.heap.size + 1 := ⟨_, rfl⟩
  haveI : NeB w.heap.size b := ⟨by omega⟩
  haveI hle : LeB w.heap.size b := ⟨by omega⟩
  have HB := hid hbw
  clear hbw
  go_enter Try.func25, Try.ntmps25
  go_wp2_with (first | (go_at_call 39; go_loud (refine (from_g _ _ l b _ hb ?_).mono ?_; (· exact (by have := HB.out; simpa using this)); rintro e w' ⟨rfl, k, rfl, hs⟩)) | (go_at_call 55; go_loud ((refine (drawTk_any b _ ?_).mono ?_); (· omega); rintro e w' ⟨nm, A1, c1, l1, hn1, hl1, rfl, k1, rfl, hr1, hf1⟩; haveI hr1 := hr1; haveI hna1 : NaB b A1 := ⟨fun x o e => by have := hf1 x o e; have := hs.lt; omega⟩; have hnw : ∀ x o, A1 = some ⟨x, o, none⟩ → x ≠ w.heap.size := (fun x o e => by have := hf1 x o e; have := k.size; simp at this; omega); haveI : NeB k1.v.heap.size b := ⟨by have := k1.src.lt; omega⟩)) | (go_at_call 57; go_loud (refine (srcOne_any b _ _ ?_ ?_).mono ?_); (· omega); (· omega); rintro e w' ⟨x, rfl, k, rfl⟩))
  · go_region_with ((go_at_call 41; go_loud (refine (among_w 10000000000 b _ #[.int .i64 (-7200000), .int .i64 7200000, .int .i64 (-7200001), .int .i64 7200001] _ _ _ ?_ ?_ ?_ ?_ ?_ ?_).mono ?_); (· intro i; go_loud (simp [go_sem]; done)); (· omega); (· omega); (· omega); (· rfl); (· repeat (first | exact trivial | refine ⟨⟨_, rfl, by omega, by omega⟩, ?_⟩)); rintro e w' ⟨y, ⟨hy1, hy2⟩, rfl, k3, rfl⟩))
    all_goals
      go_wp2
      (refine bodyPost_ret (v := _) (by simp [results, Try.results25, go_sem]; rfl) rfl ?_)
      exact ⟨nm, A1, c1, l1, _, hn1, hl1, rfl, (ex_and (fun W => Rd 2 kC W A1 l1) (by (refine Ok.toEx ?_; (repeat (first | (with_reducible exact Ok.rf _) | (with_reducible refine Ok.alloc ?_ _) | (with_reducible refine Ok.ex ?_ _) | (with_reducible refine Ok.dr ?_ _) | (with_reducible refine Ok.drew ?_) | (with_reducible refine Ok.setCellI ?_ _ _ _) | (with_reducible refine Ok.exb ?_ _))))) (by repeat (first | (with_reducible refine rd_set ?_ _ hnw) | infer_instance)))⟩
  · go_region_with ((go_at_call 47; go_loud (refine (pick_any b _ _ ?_ ?_).mono ?_); (· omega); (· omega); rintro e w' ⟨y, ⟨hy1, hy2⟩, rfl, k3, rfl⟩))
    all_goals
      go_wp2
      (refine bodyPost_ret (v := _) (by simp [results, Try.results25, go_sem]; rfl) rfl ?_)
      exact ⟨nm, A1, c1, l1, _, hn1, hl1, rfl, (ex_and (fun W => Rd 2 kC W A1 l1) (by (refine Ok.toEx ?_; (repeat (first | (with_reducible exact Ok.rf _) | (with_reducible refine Ok.alloc ?_ _) | (with_reducible refine Ok.ex ?_ _) | (with_reducible refine Ok.dr ?_ _) | (with_reducible refine Ok.drew ?_) | (with_reducible refine Ok.setCellI ?_ _ _ _) | (with_reducible refine Ok.exb ?_ _))))) (by repeat (first | (with_reducible refine rd_set ?_ _ hnw) | infer_instance)))⟩
theorem drawSlow_any (A : Option Addr) (c : Nat) (l : List Int) (w : World) [hl : Rd 1 byC w A l] (hb : ∀ x ∈ l, 0 ≤ x ∧ x ≤ 255) :
    Calls Try.prog 28 #[.slice A l.length c] w fun e w' => ∃ (nm : ByteArray) (A' : Option Addr) (c' : Nat) (l' : List Ky) (u : Int), nm.size ≤ 1000 ∧ l'.length ≤ 100 ∧ e = .returned (.tuple #[.agg #[.string nm, .slice A' l'.length c'], .int .i64 u]) ∧ ∃ k : Ex w, w' = k.v ∧ Rd 2 kC k.v A' l' := by
  obtain ⟨b, hbw⟩ : ∃ b, b = w.heap.size + 1 := ⟨_, rfl⟩
  haveI : NeB w.heap.size b := ⟨by omega⟩
  haveI hle : LeB w.heap.size b := ⟨by omega⟩
  have HB := hid hbw
  clear hbw
  go_enter Try.func28, Try.ntmps28
  go_wp2_with (first | (go_at_call 39; go_loud (refine (from_g _ _ l b _ hb ?_).mono ?_; (· exact (by have := HB.out; simpa using this)); rintro e w' ⟨rfl, k, rfl, hs⟩)) | (go_at_call 55; go_loud ((refine (drawTk_any b _ ?_).mono ?_); (· omega); rintro e w' ⟨nm, A1, c1, l1, hn1, hl1, rfl, k1, rfl, hr1, hf1⟩; haveI hr1 := hr1; haveI hna1 : NaB b A1 := ⟨fun x o e => by have := hf1 x o e; have := hs.lt; omega⟩; have hnw : ∀ x o, A1 = some ⟨x, o, none⟩ → x ≠ w.heap.size := (fun x o e => by have := hf1 x o e; have := k.size; simp at this; omega); haveI : NeB k1.v.heap.size b := ⟨by have := k1.src.lt; omega⟩)))
  go_region_with ((go_at_call 41; go_loud (refine (among_w 10000000000 b _ #[.int .i64 1, .int .i64 10, .int .i64 50, .int .i64 300, .int .i64 1000000, .int .i64 1000001, .int .i64 0] _ _ _ ?_ ?_ ?_ ?_ ?_ ?_).mono ?_); (· intro i; go_loud (simp [go_sem]; done)); (· omega); (· omega); (· omega); (· rfl); (· repeat (first | exact trivial | refine ⟨⟨_, rfl, by omega, by omega⟩, ?_⟩)); rintro e w' ⟨y, ⟨hy1, hy2⟩, rfl, k3, rfl⟩))
  all_goals
    go_wp2
    (refine bodyPost_ret (v := _) (by simp [results, Try.results28, go_sem]; rfl) rfl ?_)
    exact ⟨nm, A1, c1, l1, _, hn1, hl1, rfl, (ex_and (fun W => Rd 2 kC W A1 l1) (by (refine Ok.toEx ?_; (repeat (first | (with_reducible exact Ok.rf _) | (with_reducible refine Ok.alloc ?_ _) | (with_reducible refine Ok.ex ?_ _) | (with_reducible refine Ok.dr ?_ _) | (with_reducible refine Ok.drew ?_) | (with_reducible refine Ok.setCellI ?_ _ _ _) | (with_reducible refine Ok.exb ?_ _))))) (by repeat (first | (with_reducible refine rd_set ?_ _ hnw) | infer_instance)))⟩
end
end Go.Proofs.Ytpapphhbogngcaa
