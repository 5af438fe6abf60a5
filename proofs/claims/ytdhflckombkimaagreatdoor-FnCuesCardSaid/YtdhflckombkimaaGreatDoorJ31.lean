/-
  The draws of cues. Conditions: those typed at each theorem.
-/
import Derived.Test.YtdhflckombkimaaGreatDoorJ13
import Derived.Test.YtdhflckombkimaaGreatDoorJ29
namespace Go.Proofs.YtdhflckombkimaaGreatDoor
open Go.RowKit
section
set_option maxHeartbeats 3200000
set_option maxRecDepth 20000
theorem drawOne_any (b : Nat) {n : Nat} (w : World) [hs : Src w b n] (hn : n ≤ 10000000) :
    Calls Tryz.prog 36 #[.pointer (some ⟨b, 0, none⟩)] w fun e w' => ∃ x : Cu, x.ok ∧ e = .returned (.agg #[.string x.id, .int .i64 x.t, .int .i64 x.ln, .string x.tg, .int .i64 x.act, .int .i64 x.v]) ∧ ∃ k : Dr b (n + 12) w, w' = k.v := by
  go_enter Tryz.func36, Tryz.ntmps36
  go_wp2_with (first | (go_at_call 52; go_loud (refine (text_lit b _ _ _ _ _ _ ?_ ?_ ?_ ?_ ?_ ?_ ?_).mono ?_); (· simp); (· exact (inferInstance : LtW b _).h); (· omega); (· omega); (· omega); (· rfl); (· rfl); rintro e w' ⟨s, hs, rfl, k, rfl⟩) | (go_at_call 34; go_loud (refine (pick_any b _ _ ?_ ?_).mono ?_); (· omega); (· omega); rintro e w' ⟨x, ⟨hx1, hx2⟩, rfl, k, rfl⟩))
  all_goals
    refine bodyPost_ret (v := _) (by simp [results, Tryz.results36, go_sem]; rfl) rfl ?_
    refine ⟨⟨_, _, _, _, _, _⟩, ?_, rfl, (DrK.fin (by (repeat (first | (with_reducible exact DrK.rf _ _) | (with_reducible refine DrK.alloc ?_ _) | (with_reducible refine DrK.dr ?_ _) | (with_reducible refine DrK.ex ?_ _) | (with_reducible refine DrK.drew ?_) | (with_reducible refine DrK.set ?_ _ _ _)))) (by omega))⟩
    unfold Cu.ok bI
    dsimp only
    omega
/-- the list's block lies behind b -/
class GtA (b : Nat) (A : Option Addr) : Prop where h : ∀ g o, A = some ⟨g, o, none⟩ → b < g
instance gta_nab {b : Nat} {A : Option Addr} [h : GtA b A] : NaB b A := ⟨fun g o e => by have := h.h g o e; omega⟩
theorem draw_any (b : Nat) {n : Nat} (w : World) [hs : Src w b n] (hn : n ≤ 1000000) :
    Calls Tryz.prog 20 #[.pointer (some ⟨b, 0, none⟩)] w fun e w' => ∃ (A : Option Addr) (c : Nat) (l : List Cu), vCs l = true ∧ COks l ∧ l.length ≤ c ∧ PlA A c ∧ GtA b A ∧ e = .returned (.slice A l.length c) ∧ ∃ k : Dr b (n + 200) w, w' = k.v ∧ Rd 6 cC k.v A l := by
  have HS := hid hs
  go_enter Tryz.func20, Tryz.ntmps20
  go_wp2_with ((go_at_call 34; go_loud (refine (pick_any b _ _ ?_ ?_).mono ?_); (· omega); (· omega); rintro e w' ⟨x, ⟨hx1, hx2⟩, rfl, k, rfl⟩))
  have hp0 : x < 9 := by omega
  have hbw : b < w.heap.size := HS.out.lt
  go_loopw [3, 4] (fun v t wr => ∃ (q : Nat) (A : Option Addr) (c : Nat) (l : List Cu) (n' : Nat), q ≤ 8 ∧ t = .int .i64 q ∧ v = .slice A l.length c ∧ vCs l = true ∧ COks l ∧ l.length ≤ c ∧ PlA A c ∧ GtA b A ∧ n' + 12 * q ≤ n + 100 ∧ ∃ j : Dr b n' w, wr = j.v ∧ Rd 6 cC j.v A l) (fun _ t _ => (intOf t).toNat)
  case atStart =>
    obtain ⟨q, rfl⟩ := Int.eq_ofNat_of_zero_le hx1
    exact ⟨q, some ⟨w.heap.size, 0, none⟩, 0, [], n + 2, by omega, rfl, rfl, (vCs_mk (by simp) (fun i hi => absurd hi (by simp))), ⟨fun _ h => by simp at h⟩, Nat.le_refl _, inferInstance, ⟨fun g o e => by cases e; exact hbw⟩, by omega, by
      have h : ∃ j : Dr b (n + 2) w, k.v = j.v := (DrK.fin (by (repeat (first | (with_reducible exact DrK.rf _ _) | (with_reducible refine DrK.alloc ?_ _) | (with_reducible refine DrK.dr ?_ _) | (with_reducible refine DrK.ex ?_ _) | (with_reducible refine DrK.drew ?_) | (with_reducible refine DrK.set ?_ _ _ _)))) (by omega))
      obtain ⟨j, hj⟩ := h
      exact ⟨j, hj, Rd.nil⟩⟩
  case round =>
    obtain ⟨q, A, c, l, n', hq, rfl, rfl, hv, hk, hcap, hp, hg, hn', j0, rfl, hl⟩ := hrel
    have h32 := (vCs_of hv).1
    by_cases h0 : 0 < q
    · obtain ⟨p, rfl⟩ : ∃ p, q = p + 1 := ⟨q - 1, by omega⟩
      have h0i : (0 : Int) < ((p + 1 : Nat) : Int) := by omega
      have HV := hid hv
      clear hv
      go_wp2_with (first | (go_at_call 36; go_loud (refine (drawOne_any b _ ?_).mono ?_); (· omega); rintro e w' ⟨x, hx, rfl, k, rfl⟩) | (go_at_call 35; go_loud (refine (sAddCue_any (hk := hk) (hl := ?_) (hp := hp) A c l x _ ?_ ?_ ?_ ?_ rfl rfl).mono ?_); (· infer_instance); (· exact hcap); (· omega); (· exact hx.1); (· exact hx.2.1); rintro e w' ⟨A', c', rfl, k2, rfl, ho, hf, hc'⟩))
      · rename_i hE
        have hE : adE l x = 0 := by simpa using hE
        obtain ⟨hP, hV2⟩ := ad_vCs hE
        have hk2 : COks (adV l x) := by rw [hP]; exact putL_oks hx
        obtain ⟨g, rfl, hw⟩ := ho.own (by rw [hP, putL_len]; omega)
        have hgb : b < g := Nat.lt_of_lt_of_le k.src.lt (hf.h g 0 none rfl)
        refine ⟨⟨p, some ⟨g, 0, none⟩, c', adV l x, n' + 12, by omega, rfl, rfl, hV2, hk2, hc', inferInstance, ⟨fun g' o e => by cases e; exact hgb⟩, by omega, DrK.fin2 (p := fun W => Rd 6 cC W (some ⟨g, 0, none⟩) (adV l x)) (DrK.ex (DrK.dr (b := b) (a := w) ⟨j0.lo, j0.size, j0.keep⟩ k) k2) (Nat.le_refl _) inferInstance⟩, ?_⟩
        simp [intOf]
      · refine ⟨⟨p, A, c, l, n' + 12, by omega, rfl, rfl, HV.out, hk, hcap, hp, hg, by omega, DrK.fin2 (p := fun W => Rd 6 cC W A l) (DrK.ex (DrK.dr (b := b) (a := w) ⟨j0.lo, j0.size, j0.keep⟩ k) k2) (Nat.le_refl _) inferInstance⟩, ?_⟩
        simp [intOf]
    · obtain rfl : q = 0 := by omega
      go_wp2
      go_ret
      exact ⟨A, c, l, hv, hk, hcap, hp, hg, rfl, DrK.fin2 (m := n + 200) (p := fun W => Rd 6 cC W A l) ⟨j0.lo, j0.size, j0.keep⟩ (by omega) hl⟩
end
end Go.Proofs.YtdhflckombkimaaGreatDoor
