/-
  The draws of time codes. Conditions: those typed at each theorem.
-/
import Derived.Test.YtpapphhbogngcaaSrcB
import Derived.Test.YtpapphhbogngcaaTcC
import Derived.Test.YtpapphhbogngcaaTcE
namespace Go.Proofs.Ytpapphhbogngcaa
open Go.RowKit Tc
/-- yes or no -/
def BoolR (w : World) (e : Ending) (w' : World) : Prop := ∃ x : Bool, e = .returned (.bool x) ∧ ∃ k : Ex w, w' = k.v
theorem l16Ok_b (b : Nat) (h m s f r : Int) (w : World) (hc : AtCode w b h m s f r) : Calls Try.prog 93 #[.pointer (some ⟨b, 0, none⟩)] w (BoolR w) := by
  by_cases hk : okCode h m s f r
  · exact (l16Ok_yes b h m s f r w hc hk).mono fun e w' ⟨h1, h2⟩ => ⟨true, h1, h2⟩
  · exact (l16Ok_no b h m s f r w hc hk).mono fun e w' ⟨h1, h2⟩ => ⟨false, h1, h2⟩
theorem l16Ok_e (b : Nat) (w : World) [lt : LtW b w] (h0 : ∃ x, w.cell? ⟨b, 0, none⟩ = some (.int .i64 x)) (h1 : ∃ x, w.cell? ⟨b, 1, none⟩ = some (.int .i64 x)) (h2 : ∃ x, w.cell? ⟨b, 2, none⟩ = some (.int .i64 x)) (h3 : ∃ x, w.cell? ⟨b, 3, none⟩ = some (.int .i64 x)) (h4 : ∃ x, w.cell? ⟨b, 4, none⟩ = some (.int .i64 x)) : Calls Try.prog 93 #[.pointer (some ⟨b, 0, none⟩)] w (BoolR w) := by
  obtain ⟨h, h0⟩ := h0
  obtain ⟨m, h1⟩ := h1
  obtain ⟨s, h2⟩ := h2
  obtain ⟨f, h3⟩ := h3
  obtain ⟨r, h4⟩ := h4
  exact l16Ok_b b h m s f r w ⟨lt, h0, h1, h2, h3, h4⟩
section
set_option maxHeartbeats 3200000
set_option maxRecDepth 20000
theorem drawRate_any (b : Nat) {n : Nat} (w : World) [hs : Src w b n] (hn : n ≤ 10000000) :
    Calls Try.prog 73 #[.pointer (some ⟨b, 0, none⟩)] w (DrInt b (n + 2) (fun x => -10000000000 ≤ x ∧ x ≤ 10000000000) w) := by
  go_enter Try.func73, Try.ntmps73
  go_wp2_with ((go_at_call 41; go_loud (refine (among_l 10000000000 b _ _ _ _ _ _ ?_ ?_ ?_ ?_ ?_ ?_ ?_).mono ?_); (· simp); (· exact (inferInstance : LtW b _).h); (· omega); (· omega); (· omega); (· rfl); (· repeat (first | exact trivial | refine ⟨⟨_, rfl, by omega, by omega⟩, ?_⟩)); rintro e w' ⟨x, ⟨hx1, hx2⟩, rfl, k, rfl⟩))
  go_ret
  exact ⟨_, ⟨hx1, hx2⟩, rfl, (DrK.fin (by (repeat (first | (with_reducible exact DrK.rf _ _) | (with_reducible refine DrK.alloc ?_ _) | (with_reducible refine DrK.dr ?_ _) | (with_reducible refine DrK.ex ?_ _) | (with_reducible refine DrK.drew ?_) | (with_reducible refine DrK.set ?_ _ _ _)))) (by omega))⟩
theorem drawOk_any (b : Nat) {n : Nat} (w : World) [hs : Src w b n] (hn : n ≤ 10000000) :
    Calls Try.prog 72 #[.pointer (some ⟨b, 0, none⟩)] w fun e w' => ∃ h m s f r : Int, (-1000 ≤ r ∧ r ≤ 1000) ∧ e = .returned (.agg #[.int .i64 h, .int .i64 m, .int .i64 s, .int .i64 f, .int .i64 r]) ∧ ∃ k : Dr b (n + 10) w, w' = k.v := by
  go_enter Try.func72, Try.ntmps72
  go_wp2_with (first | (go_at_call 41; go_loud (refine (among_l 100 b _ _ _ _ _ _ ?_ ?_ ?_ ?_ ?_ ?_ ?_).mono ?_); (· simp); (· exact (inferInstance : LtW b _).h); (· omega); (· omega); (· omega); (· rfl); (· repeat (first | exact trivial | refine ⟨⟨_, rfl, by omega, by omega⟩, ?_⟩)); rintro e w' ⟨x, ⟨hx1, hx2⟩, rfl, k, rfl⟩) | (go_at_call 41; go_loud (refine (among_l 1000 b _ _ _ _ _ _ ?_ ?_ ?_ ?_ ?_ ?_ ?_).mono ?_); (· simp); (· exact (inferInstance : LtW b _).h); (· omega); (· omega); (· omega); (· rfl); (· repeat (first | exact trivial | refine ⟨⟨_, rfl, by omega, by omega⟩, ?_⟩)); rintro e w' ⟨x, ⟨hx1, hx2⟩, rfl, k, rfl⟩) | (go_at_call 93; go_loud (refine (l16Ok_e _ _ ?_ ?_ ?_ ?_ ?_).mono ?_; (· simp [go_sem]); (· simp [go_sem]); (· simp [go_sem]); (· simp [go_sem]); (· simp [go_sem]); rintro e w' ⟨x, rfl, k, rfl⟩)))
  all_goals
    refine bodyPost_ret (v := _) (by simp [results, Try.results72, go_sem]; rfl) rfl ?_
    exact ⟨_, _, _, _, _, ⟨by omega, by omega⟩, rfl, (DrK.fin (by (repeat (first | (with_reducible exact DrK.rf _ _) | (with_reducible refine DrK.alloc ?_ _) | (with_reducible refine DrK.dr ?_ _) | (with_reducible refine DrK.ex ?_ _) | (with_reducible refine DrK.drew ?_) | (with_reducible refine DrK.set ?_ _ _ _)))) (by omega))⟩
theorem drawCode_any (b : Nat) {n : Nat} (w : World) [hs : Src w b n] (hn : n ≤ 1000000) :
    Calls Try.prog 40 #[.pointer (some ⟨b, 0, none⟩)] w fun e w' => ∃ h m s f r : Int, e = .returned (.agg #[.int .i64 h, .int .i64 m, .int .i64 s, .int .i64 f, .int .i64 r]) ∧ ∃ k : Dr b (n + 20) w, w' = k.v := by
  go_enter Try.func40, Try.ntmps40
  go_wp2_with (first | (go_at_call 72; go_loud (refine (drawOk_any b _ ?_).mono ?_; (· omega); rintro e w' ⟨h, m, s, f, r, ⟨hr1, hr2⟩, rfl, k, rfl⟩)) | (go_at_call 47; go_loud (refine (pick_any b _ _ ?_ ?_).mono ?_); (· omega); (· omega); rintro e w' ⟨y, ⟨hy1, hy2⟩, rfl, k, rfl⟩) | (go_at_call 41; go_loud (refine (among_l 10000000000 b _ _ _ _ _ _ ?_ ?_ ?_ ?_ ?_ ?_ ?_).mono ?_); (· simp); (· exact (inferInstance : LtW b _).h); (· omega); (· omega); (· omega); (· rfl); (· repeat (first | exact trivial | refine ⟨⟨_, rfl, by omega, by omega⟩, ?_⟩)); rintro e w' ⟨x, ⟨hx1, hx2⟩, rfl, k, rfl⟩) | (go_at_call 73; go_loud (refine (drawRate_any b _ ?_).mono ?_; (· omega); rintro e w' ⟨x, ⟨hx1, hx2⟩, rfl, k, rfl⟩)))
  all_goals
    refine bodyPost_ret (v := _) (by simp [results, Try.results40, go_sem]; rfl) rfl ?_
    exact ⟨_, _, _, _, _, rfl, (DrK.fin (by (repeat (first | (with_reducible exact DrK.rf _ _) | (with_reducible refine DrK.alloc ?_ _) | (with_reducible refine DrK.dr ?_ _) | (with_reducible refine DrK.ex ?_ _) | (with_reducible refine DrK.drew ?_) | (with_reducible refine DrK.set ?_ _ _ _)))) (by omega))⟩
theorem drawAdd_any (A : Option Addr) (c : Nat) (l : List Int) (w : World) [hl : Rd 1 byC w A l] (hb : ∀ x ∈ l, 0 ≤ x ∧ x ≤ 255) :
    Calls Try.prog 8 #[.slice A l.length c] w fun e w' => ∃ h m s f r d : Int, (-10000000000 ≤ d ∧ d ≤ 10000000000) ∧ e = .returned (.tuple #[.agg #[.int .i64 h, .int .i64 m, .int .i64 s, .int .i64 f, .int .i64 r], .int .i64 d]) ∧ ∃ k : Ex w, w' = k.v := by
  obtain ⟨b, hbw⟩ : ∃ b, b = w.heap.size + 1 := ⟨_, rfl⟩
  haveI : NeB w.heap.size b := ⟨by omega⟩
  haveI hle : LeB w.heap.size b := ⟨by omega⟩
  have HB := hid hbw
  clear hbw
  go_enter Try.func8, Try.ntmps8
  go_wp2_with (first | (go_at_call 39; go_loud (refine (from_g _ _ l b _ hb ?_).mono ?_; (· exact (by have := HB.out; simpa using this)); rintro e w' ⟨rfl, k, rfl, hs⟩)) | (go_at_call 40; go_loud (refine (drawCode_any b _ ?_).mono ?_; (· omega); rintro e w' ⟨h, m, s, f, r, rfl, k2, rfl⟩)))
  go_region_with ((go_at_call 41; go_loud (refine (among_w 10000000000 b _ #[.int .i64 0, .int .i64 1, .int .i64 (-1), .int .i64 2, .int .i64 1798, .int .i64 (-17982), .int .i64 8640000, .int .i64 8640001, .int .i64 (-8640001), .int .i64 100000] _ _ _ ?_ ?_ ?_ ?_ ?_ ?_).mono ?_); (· intro i; go_loud (simp [go_sem]; done)); (· omega); (· omega); (· omega); (· rfl); (· repeat (first | exact trivial | refine ⟨⟨_, rfl, by omega, by omega⟩, ?_⟩)); rintro e w' ⟨x, ⟨hx1, hx2⟩, rfl, k, rfl⟩))
  all_goals
    go_wp2
    refine bodyPost_ret (v := _) (by simp [results, Try.results8, go_sem]; rfl) rfl ?_
    refine ⟨h, m, s, f, r, x, ⟨hx1, hx2⟩, rfl, ?_⟩
    (refine Ok.toEx ?_; (repeat (first | (with_reducible exact Ok.rf _) | (with_reducible refine Ok.alloc ?_ _) | (with_reducible refine Ok.ex ?_ _) | (with_reducible refine Ok.dr ?_ _) | (with_reducible refine Ok.drew ?_) | (with_reducible refine Ok.setCellI ?_ _ _ _) | (with_reducible refine Ok.exb ?_ _))))
end
end Go.Proofs.Ytpapphhbogngcaa
