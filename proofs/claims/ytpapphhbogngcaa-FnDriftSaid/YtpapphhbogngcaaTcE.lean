/-
  Contracts of the functions from frames to codes and of the exported functions on codes: each returns what its plain function says, and leaves all that lay there. Conditions: those typed at each theorem.
-/
import Derived.Test.YtpapphhbogngcaaTcD
namespace Go.Proofs.Ytpapphhbogngcaa
open Go.RowKit Tc
section
set_option maxHeartbeats 1600000
theorem l16Ok_yes2 (b : Nat) (h m s f r : Int) (w : World) (hk : okCode h m s f r) (hc : AtCode w b h m s f r) :
    Calls Try.prog 93 #[.pointer (some ⟨b, 0, none⟩)] w fun e w' => e = .returned (.bool true) ∧ ∃ k : Ex w, w' = k.v := l16Ok_yes b h m s f r w hc hk
theorem l16Ok_no2 (b : Nat) (h m s f r : Int) (w : World) (hk : ¬ okCode h m s f r) (hc : AtCode w b h m s f r) :
    Calls Try.prog 93 #[.pointer (some ⟨b, 0, none⟩)] w fun e w' => e = .returned (.bool false) ∧ ∃ k : Ex w, w' = k.v := l16Ok_no b h m s f r w hc hk
theorem codeAt_any (f r : Int) (w : World) (hr : okRate r) (h0 : 0 ≤ f) (h1 : f ≤ 100000000) :
    Calls Try.prog 46 #[.int .i64 f, .int .i64 r] w fun e w' => e = .returned (.agg #[.int .i64 (cH f r), .int .i64 (cM f r), .int .i64 (cS f r), .int .i64 (cF f r), .int .i64 r]) ∧ ∃ k : Ex w, w' = k.v := by
  have b1 : 0 ≤ f / 17982 ∧ f / 17982 ≤ f := by omega
  have b2 : 0 ≤ f % 17982 ∧ f % 17982 < 17982 := by omega
  rcases hr with rfl | rfl | rfl
  case' inr.inr => by_cases hc : 1800 ≤ f % 17982
  all_goals
    go_enter Try.func46, Try.ntmps46
    go_wp2
    refine bodyPost_ret (v := _) (by simp [results, Try.results46, go_sem]; rfl) rfl ⟨by first | (simp [cH, cM, cS, cF, cnt, *]; done) | (have hc2 : ¬ 1800 ≤ f % 17982 := (by omega); simp [cH, cM, cS, cF, cnt, hc2]), ?_⟩
    (refine Ok.toEx ?_; (repeat (first | (with_reducible exact Ok.rf _) | (with_reducible refine Ok.alloc ?_ _) | (with_reducible refine Ok.ex ?_ _) | (with_reducible refine Ok.drew ?_) | (with_reducible refine Ok.setCellI ?_ _ _ _) | (with_reducible refine Ok.exb ?_ _))))
end
end Go.Proofs.Ytpapphhbogngcaa
