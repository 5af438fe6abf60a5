/-
  The order of cues, the search of a cue. Conditions: those typed at each theorem.
-/
import Derived.Test.YtdhflckombkimaaGreatDoorJ8
import Derived.Laws.Cover1
namespace Go.Proofs.YtdhflckombkimaaGreatDoor
open Go.RowKit
/-- does x stand before y? -/
def befB (x y : Cu) : Bool := decide (x.t < y.t) || (x.t == y.t && Op.bytesLess x.id.toList y.id.toList)
theorem befB_cases (x y : Cu) :
    (befB x y = true ∧ x.t < y.t) ∨ (befB x y = true ∧ ¬ x.t < y.t ∧ (x.t == y.t) = true ∧ Op.bytesLess x.id.toList y.id.toList = true) ∨
    (befB x y = false ∧ ¬ x.t < y.t ∧ (x.t == y.t) = false) ∨ (befB x y = false ∧ ¬ x.t < y.t ∧ (x.t == y.t) = true ∧ Op.bytesLess x.id.toList y.id.toList = false) := by
  unfold befB
  by_cases h1 : x.t < y.t
  · exact .inl ⟨by simp [h1], h1⟩
  · by_cases h2 : x.t = y.t
    · cases h3 : Op.bytesLess x.id.toList y.id.toList
      · exact .inr (.inr (.inr ⟨by simp [h2], h1, ebT h2, rfl⟩))
      · exact .inr (.inl ⟨by simp [h2], h1, ebT h2, rfl⟩)
    · exact .inr (.inr (.inl ⟨by simp [h1, h2], h1, ebF h2⟩))
/-- the order of two texts as a number -/
def sI (a b : ByteArray) : Int := if Op.bytesLess a.toList b.toList = true then -1 else if (a.toList == b.toList) = true then 0 else 1
/-- the order of two numbers as a number -/
def nI (a b : Int) : Int := if a < b then -1 else if a = b then 0 else 1
def orI (a b : Int) : Int := if a = 0 then b else a
def cmpI (x y : Cu) : Int := orI (nI x.t y.t) (sI x.id y.id)
theorem sI_bd (a b : ByteArray) : -1 ≤ sI a b ∧ sI a b ≤ 1 := by unfold sI; split <;> (try split) <;> omega
theorem nI_bd (a b : Int) : -1 ≤ nI a b ∧ nI a b ≤ 1 := by unfold nI; split <;> (try split) <;> omega
theorem cmpI_bd (x y : Cu) : -1 ≤ cmpI x y ∧ cmpI x y ≤ 1 := by
  have h1 := sI_bd x.id y.id
  have h2 := nI_bd x.t y.t
  unfold cmpI orI
  split <;> omega
theorem cmpI_lt {x y : Cu} (h : befB x y = true) : cmpI x y < 0 := by
  rcases befB_cases x y with ⟨h0, h1⟩ | ⟨h0, h1, h2, h3⟩ | ⟨h0, -⟩ | ⟨h0, -⟩
  · unfold cmpI nI orI; rw [if_pos h1, if_neg (by omega)]; omega
  · rw [beq_iff_eq] at h2
    unfold cmpI nI orI sI; rw [if_neg h1, if_pos h2, if_pos rfl, if_pos h3]; omega
  · rw [h] at h0; cases h0
  · rw [h] at h0; cases h0
theorem cmpI_ge {x y : Cu} (h : befB x y = false) : 0 ≤ cmpI x y := by
  rcases befB_cases x y with ⟨h0, -⟩ | ⟨h0, -⟩ | ⟨h0, h1, h2⟩ | ⟨h0, h1, h2, h3⟩
  · rw [h] at h0; cases h0
  · rw [h] at h0; cases h0
  · rw [beq_eq_false_iff_ne] at h2
    unfold cmpI nI orI; rw [if_neg h1, if_neg h2, if_neg (by omega)]; omega
  · rw [beq_iff_eq] at h2
    unfold cmpI nI orI sI; rw [if_neg h1, if_pos h2, if_pos rfl, if_neg (by rw [h3]; simp)]; split <;> omega
/-- where the cue of a name stands, or the length -/
def cIx (l : List Cu) (nm : ByteArray) : Nat := l.findIdx fun x => x.id.toList == nm.toList
/-- .., or -1 -/
def cII (l : List Cu) (nm : ByteArray) : Int := if cIx l nm < l.length then (cIx l nm : Int) else -1
theorem cIx_hit {l : List Cu} {nm : ByteArray} {q : Nat} (h : q < l.length) (he : ((cuG l q).id.toList == nm.toList) = true) (hb : ∀ j, j < q → ((cuG l j).id.toList == nm.toList) = false) : cIx l nm = q := by
  unfold cIx
  rw [List.findIdx_eq h]
  refine ⟨by rw [cuG_at h] at he; exact he, fun j hj => ?_⟩
  have := hb j hj
  rwa [cuG_at (by omega)] at this
theorem cIx_miss {l : List Cu} {nm : ByteArray} (hb : ∀ j, j < l.length → ((cuG l j).id.toList == nm.toList) = false) : cIx l nm = l.length := by
  unfold cIx
  rw [List.findIdx_eq_length]
  intro x hx
  obtain ⟨j, hj, rfl⟩ := List.getElem_of_mem hx
  have := hb j hj
  rwa [cuG_at hj] at this
theorem cII_hit {l : List Cu} {nm : ByteArray} {q : Nat} (h : q < l.length) (he : ((cuG l q).id.toList == nm.toList) = true) (hb : ∀ j, j < q → ((cuG l j).id.toList == nm.toList) = false) : cII l nm = q := by unfold cII; rw [cIx_hit h he hb, if_pos h]
theorem cII_miss {l : List Cu} {nm : ByteArray} (hb : ∀ j, j < l.length → ((cuG l j).id.toList == nm.toList) = false) : cII l nm = -1 := by unfold cII; rw [cIx_miss hb, if_neg (by omega)]
theorem cI_part (l : List Cu) (nm : ByteArray) : (∃ q, q < l.length ∧ ((cuG l q).id.toList == nm.toList) = true ∧ ∀ j, j < q → ((cuG l j).id.toList == nm.toList) = false) ∨ ∀ j, j < l.length → ((cuG l j).id.toList == nm.toList) = false := by
  by_cases h : cIx l nm < l.length
  · refine .inl ⟨cIx l nm, h, ?_, fun j hj => ?_⟩
    · have := List.findIdx_getElem (p := fun x : Cu => x.id.toList == nm.toList) (xs := l) (w := h)
      rw [cuG_at h]
      exact this
    · have := List.not_of_lt_findIdx (p := fun x : Cu => x.id.toList == nm.toList) (xs := l) hj
      rw [cuG_at (Nat.lt_trans hj h)]
      simpa using this
  · refine .inr fun j hj => ?_
    have hj' : j < List.findIdx (fun x : Cu => x.id.toList == nm.toList) l := by unfold cIx at h; omega
    have := List.not_of_lt_findIdx (p := fun x : Cu => x.id.toList == nm.toList) (xs := l) hj'
    rw [cuG_at hj]
    simpa using this
theorem ba_extL {a b : ByteArray} (h : a.toList = b.toList) : a = b := by
  rw [ByteArray.toList_eq, ByteArray.toList_eq] at h
  cases a; cases b
  congr
  exact Array.toList_inj.1 h
section
set_option maxHeartbeats 3200000
set_option maxRecDepth 20000
theorem cmpN_any (a b : Int) (w : World) : Calls Tryz.prog 54 #[.int .i64 a, .int .i64 b] w fun e w' => e = .returned (.int .i64 (nI a b)) ∧ w = w' := by
  rcases Int.lt_trichotomy a b with h | h | h
  · have HN : Hid (nI a b = -1) := hid (by unfold nI; rw [if_pos h])
    go_enter Tryz.func54, Tryz.ntmps54
    go_wp2
    go_ret
    exact ⟨by rw [HN.out]; rfl, rfl⟩
  · have HN : Hid (nI a b = 0) := hid (by unfold nI; rw [if_neg (by omega), if_pos h])
    subst h
    go_enter Tryz.func54, Tryz.ntmps54
    go_wp2
    go_ret
    exact ⟨by rw [HN.out]; rfl, rfl⟩
  · have HN : Hid (nI a b = 1) := hid (by unfold nI; rw [if_neg (by omega), if_neg (by omega)])
    have h' : ¬ a < b := by omega
    go_enter Tryz.func54, Tryz.ntmps54
    go_wp2
    go_ret
    exact ⟨by rw [HN.out]; rfl, rfl⟩
theorem cmpS_any (a b : ByteArray) (w : World) : Calls Tryz.prog 55 #[.string a, .string b] w fun e w' => e = .returned (.int .i64 (sI a b)) ∧ w = w' := by
  cases h : Op.bytesLess a.toList b.toList
  · by_cases h2 : a.toList = b.toList
    · obtain rfl := ba_extL h2
      have HN : Hid (sI a a = 0) := hid (by unfold sI; rw [h, if_neg (by simp), if_pos (by simp)])
      clear h2
      go_enter Tryz.func55, Tryz.ntmps55
      go_wp2
      go_ret
      exact ⟨by rw [HN.out]; rfl, rfl⟩
    · have h3 : (a.toList == b.toList) = false := by rw [beq_eq_false_iff_ne]; exact h2
      have HN : Hid (sI a b = 1) := hid (by unfold sI; rw [h, h3]; rfl)
      go_enter Tryz.func55, Tryz.ntmps55
      go_wp2
      go_ret
      exact ⟨by rw [HN.out]; rfl, rfl⟩
  · have HN : Hid (sI a b = -1) := hid (by unfold sI; rw [h]; rfl)
    go_enter Tryz.func55, Tryz.ntmps55
    go_wp2
    go_ret
    exact ⟨by rw [HN.out]; rfl, rfl⟩
theorem or_any (b : Nat) (x y : Int) (w : World) [LtW b w] (c0 : w.cell? ⟨b, 0, none⟩ = some (.int .i64 x)) (c1 : w.cell? ⟨b, 1, none⟩ = some (.int .i64 y)) :
    Calls Tryz.prog 53 #[.slice (some ⟨b, 0, none⟩) 2 2] w fun e w' => e = .returned (.int .i64 (orI x y)) ∧ w = w' := by
  by_cases hx : x = 0
  · subst hx
    have HN : Hid (orI 0 y = y) := hid (by unfold orI; rw [if_pos rfl])
    by_cases hy : y = 0
    · subst hy
      go_enter Tryz.func53, Tryz.ntmps53
      go_wp2
      go_loop [8] (fun t => t = .int .i64 0 ∨ t = .int .i64 1 ∨ t = .int .i64 2) (fun t => 2 - (intOf t).toNat)
      case atStart => exact .inl rfl
      case round =>
        rcases hrel with rfl | rfl | rfl
        · go_wp2
          go_round
          case rel => exact .inr (.inl rfl)
          case measure => simp [intOf]
        · go_wp2
          go_round
          case rel => exact .inr (.inr rfl)
          case measure => simp [intOf]
        · go_wp2
          go_ret
          exact ⟨by rw [HN.out]; rfl, rfl⟩
    · have hy2 := ebF hy
      clear hy
      go_enter Tryz.func53, Tryz.ntmps53
      go_wp2
      go_loop [8] (fun t => t = .int .i64 0 ∨ t = .int .i64 1) (fun t => 2 - (intOf t).toNat)
      case atStart => exact .inl rfl
      case round =>
        rcases hrel with rfl | rfl
        · go_wp2
          go_round
          case rel => exact .inr rfl
          case measure => simp [intOf]
        · go_wp2
          go_ret
          exact ⟨by rw [HN.out]; rfl, rfl⟩
  · have HN : Hid (orI x y = x) := hid (by unfold orI; rw [if_neg hx])
    have hx2 := ebF hx
    clear hx
    go_enter Tryz.func53, Tryz.ntmps53
    go_wp2
    go_loop [8] (fun t => t = .int .i64 0) (fun t => 2 - (intOf t).toNat)
    case atStart => rfl
    case round =>
      subst hrel
      go_wp2
      go_ret
      exact ⟨by rw [HN.out]; rfl, rfl⟩
theorem cmpC_any (x y : Cu) (w : World) {m : Int} (hm : cmpI x y = m) : Calls Tryz.prog 37 #[.agg #[.string x.id, .int .i64 x.t, .int .i64 x.ln, .string x.tg, .int .i64 x.act, .int .i64 x.v], .agg #[.string y.id, .int .i64 y.t, .int .i64 y.ln, .string y.tg, .int .i64 y.act, .int .i64 y.v]] w fun e w' => e = .returned (.int .i64 m) ∧ ∃ k : Ex w, w' = k.v := by
  subst hm
  have HM : Hid (cmpI x y = orI (nI x.t y.t) (sI x.id y.id)) := hid rfl
  go_enter Tryz.func37, Tryz.ntmps37
  go_wp2
  (refine wp_region_ex_tail 10 (by kernel_rfl) (by kernel_rfl) ?_; simp only [List.take_succ_cons, List.take_zero, List.drop_succ_cons, List.drop_zero]; (repeat (go_big_quiet_step (((first | (go_at_call 54; exact calls_ex_same (cmpN_any _ _ _)) | (go_at_call 55; exact calls_ex_same (cmpS_any _ _ _))))))); refine wpQuiet_nil ?_; intro k)
  go_wp2_with ((go_at_call 53; refine (or_any _ (nI x.t y.t) (sI x.id y.id) _ (by simp [go_sem]) (by simp [go_sem])).mono ?_; rintro e w' ⟨rfl, rfl⟩))
  go_ret
  refine ⟨by rw [HM.out]; rfl, ?_⟩
  (refine Ok.toEx ?_; (repeat (first | (with_reducible exact Ok.rf _) | (with_reducible refine Ok.alloc ?_ _) | (with_reducible refine Ok.ex ?_ _) | (with_reducible refine Ok.drew ?_) | (with_reducible refine Ok.setCellI ?_ _ _ _) | (with_reducible refine Ok.exb ?_ _))))
theorem before_any (x y : Cu) (b z b' z' : Nat) (w : World) [LtW b w] [LtW b' w] (hx : CuAt w b z x) (hy : CuAt w b' z' y) {r : Bool} (hr : befB x y = r) :
    Calls Tryz.prog 73 #[.pointer (some ⟨b, z, none⟩), .pointer (some ⟨b', z', none⟩)] w fun e w' => e = .returned (.bool r) ∧ ∃ k : Ex w, w' = k.v := by
  subst hr
  obtain ⟨c0, c1, c2, c3, c4, c5⟩ := hx
  obtain ⟨d0, d1, d2, d3, d4, d5⟩ := hy
  rcases befB_cases x y with ⟨h0, h1⟩ | ⟨h0, h1, h2, h3⟩ | ⟨h0, h1, h2⟩ | ⟨h0, h1, h2, h3⟩
  all_goals
    have HV := hid h0
    clear h0
    first | (have hd : decide (x.t < y.t) = true := decide_eq_true h1) | (have hd : decide (x.t < y.t) = false := decide_eq_false h1)
    go_enter Tryz.func73, Tryz.ntmps73
    go_wp2
    (refine wp_region_ex (by kernel_rfl) (by kernel_rfl) ?_; (repeat (go_big_quiet_step ((fail)))); refine wpQuiet_nil ?_; rintro _ ⟨k, rfl⟩)
    go_wp2
    go_ret
    exact ⟨by rw [HV.out]; first | rfl | simp_all, k, rfl⟩
theorem find_any (A : Option Addr) (c : Nat) (l : List Cu) (nm : ByteArray) (w : World) [hl : Rd 6 cC w A l] {m : Int} (hm : cII l nm = m) :
    Calls Tryz.prog 50 #[.slice A l.length c, .string nm] w fun e w' => e = .returned (.int .i64 m) ∧ w = w' := by
  subst hm
  have hlen := hl.len
  have HA := hid hl.cu
  go_enter Tryz.func50, Tryz.ntmps50
  go_wp2
  go_loop [5] (fun t => ∃ q : Nat, q ≤ l.length ∧ t = .int .i64 q ∧ ∀ j, j < q → ((cuG l j).id.toList == nm.toList) = false) (fun t => l.length - (intOf t).toNat)
  case atStart => exact ⟨0, Nat.zero_le _, rfl, fun j hj => absurd hj (by omega)⟩
  case round =>
    obtain ⟨q, hq, rfl, hb⟩ := hrel
    have HB := hid hb
    clear hb
    by_cases hlt : q < l.length
    · obtain ⟨b, o, rfl, hbw, hc⟩ := HA.out (by omega)
      obtain ⟨c0, c1, c2, c3, c4, c5⟩ := hc q hlt
      clear hc
      cases hp : ((cuG l q).id.toList == nm.toList)
      · have HN : Hid (∀ j, j < q + 1 → ((cuG l j).id.toList == nm.toList) = false) := hid fun j hj => by
          rcases Nat.lt_or_ge j q with h | h
          · exact HB.out j h
          · obtain rfl : j = q := by omega
            exact hp
        generalize cuG l q = x at *
        go_wp2
        go_round
        case rel => exact ⟨q + 1, by omega, by go_num, HN.out⟩
        case measure => simp [intOf]; omega
      · have HR := hid (cII_hit hlt hp HB.out)
        generalize cuG l q = x at *
        go_wp2
        go_ret
        exact ⟨by rw [HR.out]; rfl, rfl⟩
    · go_wp2
      go_ret
      exact ⟨by rw [cII_miss fun j hj => HB.out j (by omega)]; rfl, rfl⟩
theorem clCu_any (x : Cu) (b : Nat) (nm : ByteArray) (w : World) [LtW b w] (hc : w.cell? ⟨b, 0, none⟩ = some (.string nm)) {r : Bool} (h : (x.id.toList == nm.toList) = r) :
    Calls Tryz.prog 40 #[.agg #[.string x.id, .int .i64 x.t, .int .i64 x.ln, .string x.tg, .int .i64 x.act, .int .i64 x.v], .pointer (some ⟨b, 0, none⟩)] w fun e w' => e = .returned (.bool r) ∧ ∃ k : Ex w, w' = k.v := by
  cases r
  all_goals
    go_enter Tryz.func40, Tryz.ntmps40
    go_wp2
    (go_ret; refine ⟨by first | rfl | (simp; done), ?_⟩; (refine Ok.toEx ?_; (repeat (first | (with_reducible exact Ok.rf _) | (with_reducible refine Ok.alloc ?_ _) | (with_reducible refine Ok.ex ?_ _) | (with_reducible refine Ok.drew ?_) | (with_reducible refine Ok.setCellI ?_ _ _ _) | (with_reducible refine Ok.exb ?_ _)))))
theorem idxCu (A : Option Addr) (c : Nat) (l : List Cu) (b' : Nat) (nm : ByteArray) (w : World) (hl : Rd 6 cC w A l) [hb' : LtW b' w] (hcell : w.cell? ⟨b', 0, none⟩ = some (.string nm)) :
    Calls Tryz.prog 39 #[.slice A l.length c, .func (.func 40) #[] #[.pointer (some ⟨b', 0, none⟩)]] w fun e w' => e = .returned (.int .i64 (cII l nm)) ∧ ∃ k : Ex w, w' = k.v := by
  have hlen := hl.len
  have HA := hid hl.cu
  clear hl
  go_enter Tryz.func39, Tryz.ntmps39
  go_wp2
  go_loopw [8] (fun i wr => ∃ q : Nat, q ≤ l.length ∧ i = .int .i64 q ∧ (∀ j, j < q → ((cuG l j).id.toList == nm.toList) = false) ∧ ∃ j : Ex w, wr = j.v) (fun i _ => l.length - (intOf i).toNat)
  case atStart => exact ⟨0, Nat.zero_le _, rfl, fun j hj => absurd hj (by omega), Ex.rf w, rfl⟩
  case round =>
    obtain ⟨q, hq, rfl, hb, j0, rfl⟩ := hrel
    have HB := hid hb
    clear hb
    by_cases hlt : q < l.length
    · obtain ⟨b, o, rfl, hbw, hc⟩ := HA.out (by omega)
      obtain ⟨c0, c1, c2, c3, c4, c5⟩ := hc q hlt
      clear hc
      cases hp : ((cuG l q).id.toList == nm.toList)
      · have HN : Hid (∀ j, j < q + 1 → ((cuG l j).id.toList == nm.toList) = false) := hid fun j hj => by
          rcases Nat.lt_or_ge j q with h | h
          · exact HB.out j h
          · obtain rfl : j = q := by omega
            exact hp
        have HP := hid hp
        clear hp
        generalize cuG l q = x at *
        go_wp2_with ((go_at_call 40; refine (clCu_any x b' nm _ ((j0.cell _ _).trans hcell) HP.out).mono ?_; rintro e w' ⟨rfl, k, rfl⟩))
        go_roundw
        case rel => exact ⟨q + 1, by omega, by go_num, HN.out, j0.tr k, rfl⟩
        case measure => simp [intOf]; omega
      · have HR := hid (cII_hit hlt hp HB.out)
        have HP := hid hp
        clear hp
        generalize cuG l q = x at *
        go_wp2_with ((go_at_call 40; refine (clCu_any x b' nm _ ((j0.cell _ _).trans hcell) HP.out).mono ?_; rintro e w' ⟨rfl, k, rfl⟩))
        go_ret
        refine ⟨by rw [HR.out]; rfl, ?_⟩
        (refine Ok.toEx ?_; (repeat (first | (with_reducible exact Ok.rf _) | (with_reducible refine Ok.alloc ?_ _) | (with_reducible refine Ok.ex ?_ _) | (with_reducible refine Ok.drew ?_) | (with_reducible refine Ok.setCellI ?_ _ _ _) | (with_reducible refine Ok.exb ?_ _))))
    · go_wp2
      go_ret
      exact ⟨by rw [cII_miss fun j hj => HB.out j (by omega)]; rfl, j0, rfl⟩
theorem cueIx_any (A : Option Addr) (n c : Nat) (l : List Cu) (nm : ByteArray) (w : World) (hl : Rd 6 cC w A l) (hn : l.length = n) {m : Int} (hm : cII l nm = m) :
    Calls Tryz.prog 23 #[.slice A n c, .string nm] w fun e w' => e = .returned (.int .i64 m) ∧ ∃ k : Ex w, w' = k.v := by
  subst hn; subst hm
  have HL := hid hl
  clear hl
  go_enter Tryz.func23, Tryz.ntmps23
  go_wp2_with (go_at_call 39; refine (idxCu A c l _ nm _ (haveI := HL.out; inferInstance) (by simp [go_sem])).mono ?_; rintro e w' ⟨rfl, k, rfl⟩)
  (go_ret; refine ⟨by first | rfl | (simp; done), ?_⟩; (refine Ok.toEx ?_; (repeat (first | (with_reducible exact Ok.rf _) | (with_reducible refine Ok.alloc ?_ _) | (with_reducible refine Ok.ex ?_ _) | (with_reducible refine Ok.drew ?_) | (with_reducible refine Ok.setCellI ?_ _ _ _) | (with_reducible refine Ok.exb ?_ _)))))
end
end Go.Proofs.YtdhflckombkimaaGreatDoor
