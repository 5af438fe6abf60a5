/-
  Contracts of the reference's AddFrames. Conditions: those typed at each theorem.
-/
import Derived.Test.YtfabohjejgdcgaaTcI
import Derived.Deep.RegionWith
import Derived.Deep.DrawnRows
attribute [local go_sem ↓] Go.wp_at_zero Go.wp_at_succ
namespace Go.Proofs.Ytfabohjejgdcgaa
open Go.RowKit Tc
section
set_option maxHeartbeats 3200000
theorem sAdd_no6a (h m s f r d : Int) (w : World) (hk : okCode h m s f r) (hd1 : -8640000 ≤ d) (hd2 : d ≤ 8640000) (hn : num h m s f r + d < 0) :
    Calls Try.prog 42 #[.agg #[.int .i64 h, .int .i64 m, .int .i64 s, .int .i64 f, .int .i64 r], .int .i64 d] w fun e w' => e = .returned (.tuple #[(.agg #[.int .i64 0, .int .i64 0, .int .i64 0, .int .i64 0, .int .i64 0]), .int .i64 6]) ∧ ∃ k : Ex w, w' = k.v := by
  obtain ⟨b1, b2⟩ := num_rng hk
  obtain ⟨d0, d1⟩ := dayOf_bd hk.1
  have hw : IntKind.i64.wrap (num h m s f r + d) = num h m s f r + d := IntWalk.i64_in _ (by omega)
  go_enter Try.func42, Try.ntmps42
  go_wp2_with (first | (go_at_call 51; first | (refine (l16Ok_yes2 _ h m s f r _ hk (by first | (constructor <;> first | infer_instance | (simp [go_sem] <;> fail)) | fail)).mono ?_; rintro e w' ⟨rfl, k, rfl⟩) | (refine (l16Ok_no2 _ h m s f r _ hk (by first | (constructor <;> first | infer_instance | (simp [go_sem] <;> fail)) | fail)).mono ?_; rintro e w' ⟨rfl, k, rfl⟩)) | (go_at_call 55; first | (refine (in_yes _ _ _ _ (by omega) (by omega)).mono ?_; rintro e w' ⟨rfl, rfl⟩) | (refine (in_no _ _ _ _ (by omega)).mono ?_; rintro e w' ⟨rfl, rfl⟩)))
  go_region_with (first | (go_at_call 63; refine (l16Frame_any _ h m s f r _ (by first | (constructor <;> first | infer_instance | (simp [go_sem] <;> fail)) | fail) hk).mono ?_; rintro e w' ⟨rfl, k, rfl⟩) | (go_at_call 66; refine (l16Code_neg _ _ _ (by omega)).mono ?_; rintro e w' ⟨rfl, k, rfl⟩))
  all_goals
    go_wp2
    (refine bodyPost_ret (v := _) (by simp [results, Try.results42, go_sem]; rfl) rfl ⟨by first | rfl | (simp; done), ?_⟩; (refine Ok.toEx ?_; (repeat (first | (with_reducible exact Ok.rf _) | (with_reducible refine Ok.alloc ?_ _) | (with_reducible refine Ok.ex ?_ _) | (with_reducible refine Ok.drew ?_) | (with_reducible refine Ok.setCellI ?_ _ _ _)))))
theorem sAdd_no6b (h m s f r d : Int) (w : World) (hk : okCode h m s f r) (hd1 : -8640000 ≤ d) (hd2 : d ≤ 8640000) (hn : dayOf r ≤ num h m s f r + d) :
    Calls Try.prog 42 #[.agg #[.int .i64 h, .int .i64 m, .int .i64 s, .int .i64 f, .int .i64 r], .int .i64 d] w fun e w' => e = .returned (.tuple #[(.agg #[.int .i64 0, .int .i64 0, .int .i64 0, .int .i64 0, .int .i64 0]), .int .i64 6]) ∧ ∃ k : Ex w, w' = k.v := by
  obtain ⟨b1, b2⟩ := num_rng hk
  obtain ⟨d0, d1⟩ := dayOf_bd hk.1
  have hw : IntKind.i64.wrap (num h m s f r + d) = num h m s f r + d := IntWalk.i64_in _ (by omega)
  go_enter Try.func42, Try.ntmps42
  go_wp2_with (first | (go_at_call 51; first | (refine (l16Ok_yes2 _ h m s f r _ hk (by first | (constructor <;> first | infer_instance | (simp [go_sem] <;> fail)) | fail)).mono ?_; rintro e w' ⟨rfl, k, rfl⟩) | (refine (l16Ok_no2 _ h m s f r _ hk (by first | (constructor <;> first | infer_instance | (simp [go_sem] <;> fail)) | fail)).mono ?_; rintro e w' ⟨rfl, k, rfl⟩)) | (go_at_call 55; first | (refine (in_yes _ _ _ _ (by omega) (by omega)).mono ?_; rintro e w' ⟨rfl, rfl⟩) | (refine (in_no _ _ _ _ (by omega)).mono ?_; rintro e w' ⟨rfl, rfl⟩)))
  go_region_with (first | (go_at_call 63; refine (l16Frame_any _ h m s f r _ (by first | (constructor <;> first | infer_instance | (simp [go_sem] <;> fail)) | fail) hk).mono ?_; rintro e w' ⟨rfl, k, rfl⟩) | (go_at_call 66; refine (l16Code_big _ _ _ hk.1 hn (by omega)).mono ?_; rintro e w' ⟨rfl, k, rfl⟩))
  all_goals
    go_wp2
    (refine bodyPost_ret (v := _) (by simp [results, Try.results42, go_sem]; rfl) rfl ⟨by first | rfl | (simp; done), ?_⟩; (refine Ok.toEx ?_; (repeat (first | (with_reducible exact Ok.rf _) | (with_reducible refine Ok.alloc ?_ _) | (with_reducible refine Ok.ex ?_ _) | (with_reducible refine Ok.drew ?_) | (with_reducible refine Ok.setCellI ?_ _ _ _)))))
theorem sAdd_yes (h m s f r d : Int) (w : World) (hk : okCode h m s f r) (hd1 : -8640000 ≤ d) (hd2 : d ≤ 8640000) (hn1 : 0 ≤ num h m s f r + d) (hn2 : num h m s f r + d < dayOf r) :
    Calls Try.prog 42 #[.agg #[.int .i64 h, .int .i64 m, .int .i64 s, .int .i64 f, .int .i64 r], .int .i64 d] w fun e w' => e = .returned (.tuple #[(.agg #[.int .i64 (cH (num h m s f r + d) r), .int .i64 (cM (num h m s f r + d) r), .int .i64 (cS (num h m s f r + d) r), .int .i64 (cF (num h m s f r + d) r), .int .i64 r]), .int .i64 0]) ∧ ∃ k : Ex w, w' = k.v := by
  obtain ⟨b1, b2⟩ := num_rng hk
  obtain ⟨d0, d1⟩ := dayOf_bd hk.1
  have hw : IntKind.i64.wrap (num h m s f r + d) = num h m s f r + d := IntWalk.i64_in _ (by omega)
  go_enter Try.func42, Try.ntmps42
  go_wp2_with (first | (go_at_call 51; first | (refine (l16Ok_yes2 _ h m s f r _ hk (by first | (constructor <;> first | infer_instance | (simp [go_sem] <;> fail)) | fail)).mono ?_; rintro e w' ⟨rfl, k, rfl⟩) | (refine (l16Ok_no2 _ h m s f r _ hk (by first | (constructor <;> first | infer_instance | (simp [go_sem] <;> fail)) | fail)).mono ?_; rintro e w' ⟨rfl, k, rfl⟩)) | (go_at_call 55; first | (refine (in_yes _ _ _ _ (by omega) (by omega)).mono ?_; rintro e w' ⟨rfl, rfl⟩) | (refine (in_no _ _ _ _ (by omega)).mono ?_; rintro e w' ⟨rfl, rfl⟩)))
  go_region_with (first | (go_at_call 63; refine (l16Frame_any _ h m s f r _ (by first | (constructor <;> first | infer_instance | (simp [go_sem] <;> fail)) | fail) hk).mono ?_; rintro e w' ⟨rfl, k, rfl⟩) | (go_at_call 66; refine (l16Code_yes _ _ _ hk.1 hn1 hn2).mono ?_; rintro e w' ⟨rfl, k, rfl⟩))
  all_goals
    go_wp2
    (refine bodyPost_ret (v := _) (by simp [results, Try.results42, go_sem]; rfl) rfl ⟨by first | rfl | (simp; done), ?_⟩; (refine Ok.toEx ?_; (repeat (first | (with_reducible exact Ok.rf _) | (with_reducible refine Ok.alloc ?_ _) | (with_reducible refine Ok.ex ?_ _) | (with_reducible refine Ok.drew ?_) | (with_reducible refine Ok.setCellI ?_ _ _ _)))))
end
end Go.Proofs.Ytfabohjejgdcgaa
