/-
  LevelAt of the specification; LevelAt, both. Conditions: those typed at each theorem.
-/
import Derived.Test.YthgfnbgdpmbolaaCuLi
namespace Go.Proofs.Ythgfnbgdpmbolaa
open Go.RowKit
section
set_option maxHeartbeats 6400000
set_option maxRecDepth 20000
theorem iLevelAt_any (A : Option Addr) (c : Nat) (l : List Cu) (nm : ByteArray) (time : Int) (w : World) [hk : COks l] [hl : Rd 6 cC w A l] (hcap : l.length ≤ c) (hn : l.length ≤ 1048576) {rv re : Int} (hrv : laV l nm time = rv) (hre : laE l time = re) :
    Calls Try.prog 8 #[.slice A l.length c, .string nm, .int .i64 time] w fun e w' => e = .returned (.tuple #[.int .i64 rv, .int .i64 re]) ∧ ∃ k : Ex w, w' = k.v := by
  subst hrv; subst hre
  have hlen := hl.len
  cases hv : vCs l
  · have HR := hid (la_inv (nm := nm) (time := time) hv)
    have HV := hid hv
    clear hv
    go_enter Try.func8, Try.ntmps8
    go_wp2_with ((go_at_call 21; (with_reducible refine (iCs_any _ _ l _ ?_ ?_ (HV.out)).mono ?_); (· omega); (· omega); rintro e w' ⟨rfl, k, rfl⟩))
    go_ret2
    rw [HR.out.1, HR.out.2]
    refine ⟨by rfl, ?_⟩
    (refine Ok.toEx ?_; (repeat (first | (with_reducible exact Ok.rf _) | (with_reducible refine Ok.alloc ?_ _) | (with_reducible refine Ok.ex ?_ _) | (with_reducible refine Ok.drew ?_) | (with_reducible refine Ok.setCellI ?_ _ _ _) | (with_reducible refine Ok.exb ?_ _))))
  · have HV := hid hv
    by_cases ht : 0 ≤ time ∧ time ≤ 7200000
    · have HR := hid (la_go (nm := nm) hv ht)
      obtain ⟨ht1, ht2⟩ := ht
      clear hv
      go_enter Try.func8, Try.ntmps8
      go_wp2_with (first | (go_at_call 21; (with_reducible refine (iCs_any _ _ l _ ?_ ?_ (HV.out)).mono ?_); (· omega); (· omega); rintro e w' ⟨rfl, k, rfl⟩) | (go_at_call 22; first | (refine (wi_yes _ _ _ _ (by omega) (by omega)).mono ?_; rintro e w' ⟨rfl, rfl⟩) | (refine (wi_no _ _ _ _ (by omega)).mono ?_; rintro e w' ⟨rfl, rfl⟩)) | (go_at_call 23; (with_reducible refine (iLv_any _ _ l nm time _ ?_ ?_ HV.out ht1 ht2 rfl).mono ?_); (· omega); (· omega); rintro e w' ⟨rfl, k2, rfl⟩))
      go_ret2
      rw [HR.out.1, HR.out.2]
      refine ⟨by rfl, ?_⟩
      (refine Ok.toEx ?_; (repeat (first | (with_reducible exact Ok.rf _) | (with_reducible refine Ok.alloc ?_ _) | (with_reducible refine Ok.ex ?_ _) | (with_reducible refine Ok.drew ?_) | (with_reducible refine Ok.setCellI ?_ _ _ _) | (with_reducible refine Ok.exb ?_ _))))
    · have HR := hid (la_rng (nm := nm) hv ht)
      have ht : time < 0 ∨ 7200000 < time := by omega
      clear hv
      go_enter Try.func8, Try.ntmps8
      go_wp2_with (first | (go_at_call 21; (with_reducible refine (iCs_any _ _ l _ ?_ ?_ (HV.out)).mono ?_); (· omega); (· omega); rintro e w' ⟨rfl, k, rfl⟩) | (go_at_call 22; first | (refine (wi_yes _ _ _ _ (by omega) (by omega)).mono ?_; rintro e w' ⟨rfl, rfl⟩) | (refine (wi_no _ _ _ _ (by omega)).mono ?_; rintro e w' ⟨rfl, rfl⟩)))
      go_ret2
      rw [HR.out.1, HR.out.2]
      refine ⟨by rfl, ?_⟩
      (refine Ok.toEx ?_; (repeat (first | (with_reducible exact Ok.rf _) | (with_reducible refine Ok.alloc ?_ _) | (with_reducible refine Ok.ex ?_ _) | (with_reducible refine Ok.drew ?_) | (with_reducible refine Ok.setCellI ?_ _ _ _) | (with_reducible refine Ok.exb ?_ _))))
end
end Go.Proofs.Ythgfnbgdpmbolaa
