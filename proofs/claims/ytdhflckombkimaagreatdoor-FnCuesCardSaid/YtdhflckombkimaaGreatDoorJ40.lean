/-
  What the law of cues asks, in plain words. Conditions: those typed at each theorem.
  The law of cues. Conditions: those typed at each theorem.
-/
import Derived.Test.YtdhflckombkimaaGreatDoorJ33
import Derived.Test.YtdhflckombkimaaGreatDoorJ36
import Derived.Test.YtdhflckombkimaaGreatDoorJ25
import Derived.Test.YtdhflckombkimaaGreatDoorJ26
import Derived.Test.YtdhflckombkimaaGreatDoorJ38
import Derived.Test.YtdhflckombkimaaGreatDoorJ21
import Derived.Test.YtdhflckombkimaaGreatDoorJ22
import Derived.Test.YtdhflckombkimaaGreatDoorJ30
import Derived.Test.YtdhflckombkimaaGreatDoorJ39
import Derived.Test.YtdhflckombkimaaGreatDoorJ17
import Derived.Test.YtdhflckombkimaaGreatDoorJ27
import Derived.Laws.StructEq
import Derived.BigQuiet
namespace Go.Proofs.YtdhflckombkimaaGreatDoor
open Go.RowKit
def newB : ByteArray := ⟨#[110, 101, 119]⟩
def sunB : ByteArray := ⟨#[115, 117, 110]⟩
theorem okN_lit (a : Array UInt8) (h0 : 0 < a.size) (h1 : a.size ≤ 10) (h : ∀ i (hi : i < a.size), 97 ≤ a[i].toNat ∧ a[i].toNat ≤ 122) : okN ⟨a⟩ := by
  have hs : ∀ i (hi : i < a.size), smallI ((a[i].toNat : Nat) : Int) := fun i hi => by
    have := h i hi
    unfold smallI
    omega
  exact ⟨h1, h0, hs 0 h0, fun i hi => .inl (hs i hi)⟩
theorem okN_new : okN newB := okN_lit _ (by decide) (by decide) (by decide)
theorem okN_sun : okN sunB := okN_lit _ (by decide) (by decide) (by decide)
/-- the new cue -/
def nwC (t v ln : Int) : Cu := ⟨newB, t, ln, sunB, 2, v⟩
theorem nwC_ok {t v ln : Int} (h1 : 0 ≤ t ∧ t ≤ 30000) (h2 : 0 ≤ v ∧ v ≤ 1000) (h3 : 1 ≤ ln ∧ ln ≤ 200) : okC (nwC t v ln) :=
  ⟨okN_new, okN_sun, ⟨h1.1, by show t ≤ 7200000; omega⟩, h2, .inr (.inl ⟨rfl, h3.1, by show ln ≤ 7200000 - t; omega⟩)⟩
theorem nwC_oks {t v ln : Int} (h1 : 0 ≤ t ∧ t ≤ 30000) (h2 : 0 ≤ v ∧ v ≤ 1000) (h3 : 1 ≤ ln ∧ ln ≤ 200) : (nwC t v ln).ok := by
  have hn : newB.size = 3 := rfl
  have hs : sunB.size = 3 := rfl
  unfold Cu.ok nwC bI
  dsimp only
  omega
theorem size_ne {a b : ByteArray} (h : a.size ≠ b.size) : (a.toList == b.toList) = false := by
  rw [beq_eq_false_iff_ne, ByteArray.toList_eq, ByteArray.toList_eq]
  intro e
  have h1 : a.data.toList.length = a.size := by simp
  have h2 : b.data.toList.length = b.size := by simp
  rw [e] at h1
  omega
theorem wo_ins {l : List Cu} {p : Nat} (hp : p ≤ l.length) (x : Cu) : woC (insL l p x) p = l := by
  have hlt : (l.take p).length = p := by rw [List.length_take]; omega
  have hl1 : (l.take p ++ [x]).length = p + 1 := by rw [List.length_append, hlt]; rfl
  unfold woC insL
  rw [List.take_append_of_le_length (by omega), List.take_append_of_le_length (by omega), List.take_of_length_le (by omega : (l.take p).length ≤ p)]
  have : ((l.take p ++ [x]) ++ l.drop p).drop (p + 1) = l.drop p := by
    rw [List.drop_append_of_le_length (by omega), List.drop_of_length_le (by omega), List.nil_append]
  rw [this, List.take_append_drop]
/-- all that is asked of the list with the new cue -/
structure NewL (u : List Cu) (x : Cu) (N : List Cu) (q : Nat) : Prop where
  ad : adV u x = N ∧ adE u x = 0
  v : vCs N = true
  len : N.length = u.length + 1
  qle : q ≤ u.length
  at_ : cuG N q = x
  wo : woC N q = u
  cix : cIx N x.id = q
  dc : dcV N x.id = u ∧ dcE N x.id = 0
  mv : (mvR N x.id x.t).1 = N ∧ (mvR N x.id x.t).2 = 0
  cn : cnV N x.id = q ∧ cnE N x.id = 0
  mem : ∀ y ∈ N, y = x ∨ y ∈ u
theorem newL_mk {u : List Cu} {x : Cu} (hv : vCs u = true) (hx : vC x = true) (hlen : u.length ≤ 8) (hb : ∀ j, j < u.length → ((cuG u j).id.toList == x.id.toList) = false) : NewL u x (putL u x) (plI u x) := by
  have hr := rise_of hv
  have hle := plI_le u x
  have hnf : ¬ u.length = 32 := by omega
  have hput := vCs_put hv hx hb hnf
  have hins := ins_put hr hb
  have hlen2 := putL_len u x
  have hq : plI u x < (putL u x).length := by omega
  have hat : cuG (putL u x) (plI u x) = x := by
    rw [← hins, cuG_ins hle, if_neg (Nat.lt_irrefl _), if_pos rfl]
  have he : ((cuG (putL u x) (plI u x)).id.toList == x.id.toList) = true := by rw [hat]; simp
  have hbb : ∀ j, j < plI u x → ((cuG (putL u x) j).id.toList == x.id.toList) = false := fun j hj => by
    rw [← hins, cuG_ins hle, if_pos hj]
    exact hb j (by omega)
  have hwo : woC (putL u x) (plI u x) = u := by rw [← hins]; exact wo_ins hle x
  have hxt : 0 ≤ x.t ∧ x.t ≤ 7200000 := (vC_num hx).1
  have hmv := mv_go (t := x.t) hput hxt hq he hbb (by rw [hat]; exact hx)
  refine ⟨ad_go hv hx hb hnf, hput, hlen2, hle, hat, hwo, cIx_hit hq he hbb, ?_, ?_, cn_hit hput (cII_hit hq he hbb), fun y hy => putL_mem hy⟩
  · obtain ⟨h1, h2⟩ := dc_hit hput hq he hbb
    exact ⟨by rw [h1, hwo], h2⟩
  · rw [hmv]
    exact ⟨by show putL (woC (putL u x) (plI u x)) (atT (cuG (putL u x) (plI u x)) x.t) = _; rw [hwo, hat], rfl⟩
/-- the list moved as a whole -/
theorem cuG_map {l : List Cu} {b : Int} {k : Nat} (hk : k < l.length) : cuG (itK l 0 b) k = bump 0 b (cuG l k) := by
  rw [cuG_at (by rw [itK_len]; exact hk), cuG_at hk]
  simp [itK]
theorem bump_all {b : Int} {x : Cu} (h : 0 ≤ x.t) : bump 0 b x = ⟨x.id, x.t + b, x.ln, x.tg, x.act, x.v⟩ := bump_on h
theorem moved_ok {l : List Cu} (hv : vCs l = true) {b : Int} (hb : 0 ≤ b ∧ b ≤ 5000) (hs : ∀ x ∈ l, x.t ≤ 30000 ∧ x.ln ≤ 1200) : vCs (itK l 0 b) = true := by
  obtain ⟨h1, h2⟩ := vCs_of hv
  have hmem : ∀ k, k < l.length → (cuG l k).t ≤ 30000 ∧ (cuG l k).ln ≤ 1200 := fun k hk => by rw [cuG_at hk]; exact hs _ (List.getElem_mem hk)
  refine vCs_mk (by rw [itK_len]; exact h1) fun i hi => ?_
  rw [itK_len] at hi
  obtain ⟨k1, k2, k3⟩ := h2 i hi
  have n1 := vC_num k1
  refine ⟨?_, fun h0 => ?_, fun j hj => ?_⟩
  · rw [cuG_map hi, bump_all n1.1.1]
    obtain ⟨c1, c2, c3, c4, c5⟩ := vC_of k1
    have hm := hmem i hi
    refine vC_yes ⟨c1, c2, ⟨?_, ?_⟩, c4, ?_⟩
    · show 0 ≤ (cuG l i).t + b; omega
    · show (cuG l i).t + b ≤ 7200000; omega
    · rcases c5 with c5 | ⟨c5, c6, c7⟩ | c5
      · exact .inl c5
      · exact .inr (.inl ⟨c5, c6, by show (cuG l i).ln ≤ 7200000 - ((cuG l i).t + b); omega⟩)
      · exact .inr (.inr c5)
  · have n0 := vC_num (h2 (i - 1) (by omega)).1
    rw [cuG_map hi, cuG_map (by omega), bump_all n1.1.1, bump_all n0.1.1, befB_iff]
    have := (befB_iff _ _).1 (k2 h0)
    rcases this with h | ⟨h, h3⟩
    · exact .inl (by show (cuG l (i - 1)).t + b < (cuG l i).t + b; omega)
    · exact .inr ⟨by show (cuG l (i - 1)).t + b = (cuG l i).t + b; omega, h3⟩
  · have nj := vC_num (h2 j (by omega)).1
    rw [cuG_map hi, cuG_map (by omega), bump_all n1.1.1, bump_all nj.1.1]
    exact k3 j hj
theorem moved_end {l : List Cu} (hv : vCs l = true) {b : Int} : ∀ k, k ≤ l.length → 1 ≤ k → seP (itK l 0 b) k = seP l k + b ∨ b < 0
  | 0, _, h => absurd h (by omega)
  | k + 1, hk, _ => by
    by_cases hb : b < 0
    · exact .inr hb
    have n1 := vC_num ((vCs_of hv).2 k (by omega)).1
    have hx : (cuG (itK l 0 b) k).t + (cuG (itK l 0 b) k).ln = (cuG l k).t + (cuG l k).ln + b := by
      rw [cuG_map (by omega), bump_all n1.1.1]
      show (cuG l k).t + b + (cuG l k).ln = _
      omega
    left
    show max (seP (itK l 0 b) k) ((cuG (itK l 0 b) k).t + (cuG (itK l 0 b) k).ln) = max (seP l k) ((cuG l k).t + (cuG l k).ln) + b
    rw [hx]
    rcases Nat.eq_zero_or_pos k with rfl | h0
    · show max 0 _ = max 0 _ + b
      omega
    · rcases moved_end hv (b := b) k (by omega) h0 with h | h
      · rw [h]; omega
      · omega
/-- the cues ahead of a time and those behind it -/
theorem parts_len {l : List Cu} (hv : vCs l = true) {a : Int} : ∀ k, k ≤ l.length → (btF l 0 a k).length + (btF l a 7200001 k).length = k
  | 0, _ => rfl
  | k + 1, hk => by
    have ih := parts_len hv (a := a) k (by omega)
    have n1 := (vC_num ((vCs_of hv).2 k (by omega)).1).1
    by_cases h : (cuG l k).t < a
    · rw [btF_on (show isBt l 0 a k from ⟨n1.1, h⟩), btF_off (show ¬ isBt l a 7200001 k from fun h2 => by have := h2.1; omega)]
      simp; omega
    · rw [btF_off (show ¬ isBt l 0 a k from fun h2 => h h2.2), btF_on (show isBt l a 7200001 k from ⟨by omega, by omega⟩)]
      simp; omega
theorem tg_len {l : List Cu} (hv : vCs l = true) (h1 : 1 ≤ l.length) : 1 ≤ (tgV l).length ∧ (tgV l).length ≤ l.length ∧ tgE l = 0 := by
  unfold tgV tgE
  rw [if_pos hv, if_pos hv]
  simp only [mkS, List.length_map]
  refine ⟨?_, insAll_len _ _, trivial⟩
  have hl : (tgB l).length = l.length := by simp [tgB]
  have hm := (mem_insAll (tgB l) ((tgB l)[0]'(by omega)) l.length (by omega)).2 ⟨0, by omega, by omega, rfl⟩
  exact List.length_pos_iff.2 fun e => by rw [e] at hm; simp at hm
end Go.Proofs.YtdhflckombkimaaGreatDoor
namespace Go.Proofs.YtdhflckombkimaaGreatDoor
open Go.RowKit
theorem cuTx_size {x : Cu} (h : okC x) : (cuTx x).size ≤ 1000 := by
  obtain ⟨⟨h1, -⟩, ⟨h2, -⟩, ⟨t0, t1⟩, ⟨v0, v1⟩, h5⟩ := h
  have q1 := decS_size (n := x.t) (by omega) (by omega)
  have q2 := decS_size (n := x.v) (by omega) (by omega)
  have q3 := decS_size (n := x.ln) (by omega) (by omega)
  unfold cuTx cuS
  split
  · simp only [ByteArray.size_append, bsz, List.size_toArray, List.length_cons, List.length_nil]; omega
  · split
    · simp only [ByteArray.size_append, bsz, List.size_toArray, List.length_cons, List.length_nil]; omega
    · simp only [ByteArray.size_append, bsz, List.size_toArray, List.length_cons, List.length_nil]; omega
section
set_option maxHeartbeats 6400000
set_option maxRecDepth 20000
theorem lFnCues (A : Option Addr) (l : List Int) (c : Nat) (B : Option Addr) (m : List Int) (d : Nat) (w : World) [Tb w] [Es w] [Er w] [Ml w] (hl : Rd 1 byC w A l) (hb : By l) (hm : Rd 1 byC w B m) (hbm : By m) :
    Calls Tryz.prog 3 #[.slice A l.length c, .slice B m.length d] w fun e w' => e = .returned (.bool true) ∧ ∃ k : Ex w, w' = k.v := by
  by_cases hbig : l.length ≤ 1048576 ∧ m.length ≤ 1048576
  rotate_left
  · go_enter Tryz.func3, Tryz.ntmps3
    go_wp2_with ((go_at_call 4; refine (long_yes _ _ _ _ _ _ _ hbig).mono ?_; rintro e w' ⟨rfl, rfl⟩))
    (go_ret; refine ⟨by first | rfl | (simp; done), ?_⟩; (refine Ok.toEx ?_; (repeat (first | (with_reducible exact Ok.rf _) | (with_reducible refine Ok.alloc ?_ _) | (with_reducible refine Ok.ex ?_ _) | (with_reducible refine Ok.drew ?_) | (with_reducible refine Ok.setCellI ?_ _ _ _) | (with_reducible refine Ok.exb ?_ _)))))
  · obtain ⟨hb1, hb2⟩ := hbig
    go_enter Tryz.func3, Tryz.ntmps3
    go_upto_region 4 with (first | (go_at_call 4; refine (long_no _ _ _ _ _ _ _ hb1 hb2).mono ?_; rintro e w' ⟨rfl, rfl⟩) | (go_at_call 5; go_loud (refine (r8cuesS_any _ _ l _).mono ?_; rintro e w' ⟨A', c', u, hv, hk, ⟨hu8, husm⟩, hcap, hp, rfl, k, rfl, hr⟩)))
    have HV := hid hv
    have HSM := hid husm
    clear hv husm
    go_cut [6] from 36 to 44 (fun u6 wx => ∃ t v ln : Int, (0 ≤ t ∧ t ≤ 30000) ∧ (0 ≤ v ∧ v ≤ 1000) ∧ (1 ≤ ln ∧ ln ≤ 200) ∧ u6 = .pointer (some ⟨k.v.heap.size, 0, none⟩) ∧ ∃ j : Ex k.v, wx = j.v ∧ CuW j.v k.v.heap.size (nwC t v ln))
    case first =>
      go_wp2_with (first | (go_at_call 6; go_loud ((with_reducible refine (wide8b_any B d m 0 3000 _ ?_ ?_ ?_ ?_ ?_).mono ?_); (· omega); (· omega); (· omega); (· omega); (· omega); rintro e w' ⟨x0, ⟨hx1, hx2⟩, rfl, rfl⟩)) | (go_at_call 6; go_loud ((with_reducible refine (wide8b_any B d m 2 1001 _ ?_ ?_ ?_ ?_ ?_).mono ?_); (· omega); (· omega); (· omega); (· omega); (· omega); rintro e w' ⟨x1, ⟨hx3, hx4⟩, rfl, rfl⟩)) | (go_at_call 7; go_loud ((with_reducible refine (at8_any B d m 4 200 _ ?_ ?_ ?_ ?_).mono ?_); (· omega); (· omega); (· omega); (· omega); rintro e w' ⟨x2, ⟨hx5, hx6⟩, rfl, rfl⟩)))
      go_meet
      case rel => exact ⟨10 * x0, x1, 1 + x2, by omega, by omega, by omega, rfl, ex_and (fun W => CuW W k.v.heap.size (nwC (10 * x0) x1 (1 + x2))) (by (refine Ok.toEx ?_; (repeat (first | (with_reducible exact Ok.rf _) | (with_reducible refine Ok.alloc ?_ _) | (with_reducible refine Ok.ex ?_ _) | (with_reducible refine Ok.drew ?_) | (with_reducible refine Ok.setCellI ?_ _ _ _) | (with_reducible refine Ok.exb ?_ _))))) ⟨inferInstance, ⟨by simp [go_sem, nwC, newB], by simp [go_sem, nwC], by simp [go_sem, nwC], by simp [go_sem, nwC, sunB], by simp [go_sem, nwC], by simp [go_sem, nwC]⟩, fun o => by simp [go_sem]⟩⟩
    case rest =>
      obtain ⟨t, v, ln, ht, hvv, hln, rfl, j0, rfl, hcw⟩ := hcut
      have hX := vC_yes (nwC_ok ht hvv hln)
      have HXO := hid (nwC_oks ht hvv hln)
      have hbu : ∀ j, j < u.length → ((cuG u j).id.toList == (nwC t v ln).id.toList) = false := fun j hj => size_ne (by rw [cuG_at hj, (HSM.out _ (List.getElem_mem hj)).1]; show 1 ≠ newB.size; decide)
      obtain ⟨had, hvn, hnl, hqle, hat, hwo, hcix, hdc, hmv, hcn, hmem⟩ := newL_mk HV.out hX hu8 hbu
      have HDC : Hid (dcV (putL u (nwC t v ln)) ⟨#[110, 101, 119]⟩ = u ∧ dcE (putL u (nwC t v ln)) ⟨#[110, 101, 119]⟩ = 0) := hid hdc
      have HMV : Hid ((mvR (putL u (nwC t v ln)) ⟨#[110, 101, 119]⟩ (nwC t v ln).t).1 = putL u (nwC t v ln) ∧ (mvR (putL u (nwC t v ln)) ⟨#[110, 101, 119]⟩ (nwC t v ln).t).2 = 0) := hid hmv
      have HCN : Hid (cnV (putL u (nwC t v ln)) ⟨#[110, 101, 119]⟩ = (plI u (nwC t v ln) : Int) ∧ cnE (putL u (nwC t v ln)) ⟨#[110, 101, 119]⟩ = 0) := hid hcn
      have HBD : Hid (∀ y ∈ putL u (nwC t v ln), y.t ≤ 30000 ∧ y.ln ≤ 1200) := hid fun y hy => by
        rcases hmem y hy with rfl | hy
        · exact ⟨ht.2, by show ln ≤ 1200; omega⟩
        · obtain ⟨-, h1, h2⟩ := HSM.out y hy
          exact ⟨by omega, h2⟩
      have HCT : Hid (ctR (nwC t v ln) = cuTx (nwC t v ln)) := hid (by unfold ctR; rw [if_pos hX])
      have hTz : (cuTx (nwC t v ln)).size ≤ 1048576 := Nat.le_trans (cuTx_size (vC_of hX)) (by omega)
      obtain ⟨hrq1, hrq2⟩ := rq_yes (s := cuTx (nwC t v ln)) (x := nwC t v ln) ⟨vC_of hX, rfl⟩
      have HRD : Hid (∀ (W : World), Tb W → Es W → Er W → Ml W → Calls Tryz.prog 12 #[.string (cuTx (nwC t v ln))] W fun e w' => e = .returned (.tuple #[(.agg #[.string (nwC t v ln).id, .int .i64 (nwC t v ln).t, .int .i64 (nwC t v ln).ln, .string (nwC t v ln).tg, .int .i64 (nwC t v ln).act, .int .i64 (nwC t v ln).v]), .bool true]) ∧ ∃ k : Ex W, w' = k.v) := hid fun W h1 h2 h3 h4 => by
        have h := iRead_any (cuTx (nwC t v ln)) W hTz
        rw [hrq1, hrq2] at h
        exact h
      have HAD := hid had
      have HNL := hid hnl
      have hN1 : 1 ≤ (putL u (nwC t v ln)).length := by omega
      have hN9 : (putL u (nwC t v ln)).length ≤ 9 := by omega
      have hqN : plI u (nwC t v ln) < (putL u (nwC t v ln)).length := by omega
      have HVN := hid hvn
      have HAT := hid hat
      haveI hkN : COks (putL u (nwC t v ln)) := putL_oks HXO.out
      have hs1 : (nwC t v ln).id.size ≤ maxLen := HXO.out.1
      have hs2 : (nwC t v ln).tg.size ≤ maxLen := HXO.out.2.1
      clear hX hbu hdc hmv hcn hmem hrq1 hrq2 had hvn hat hwo hcix hTz ht hvv hln hnl hqle
      generalize nwC t v ln = x at *
      generalize plI u x = q at *
      generalize cuTx x = T at *
      generalize putL u x = N at *
      obtain ⟨hlt, ⟨d0, d1, d2, d3, d4, d5⟩, hfz⟩ := hcw
      clear hfz
      go_upto_region 10 with (first | (go_at_call 8; go_loud ((with_reducible refine (iAddCueC_any A' c' u x _ hcap ?_ hs1 hs2 HAD.out.1 HAD.out.2).mono ?_); (· omega); rintro e w' ⟨A1, c1, rfl, k1, rfl, ho1, hf1, hc1⟩; obtain ⟨g1, rfl, hw1⟩ := ho1.own (by omega))) | (go_at_call 9; go_loud ((with_reducible refine (iDropCue_any (some ⟨g1, 0, none⟩) c1 N ⟨#[110, 101, 119]⟩ _ hc1 ?_ HDC.out.1 HDC.out.2).mono ?_); (· omega); rintro e w' ⟨A2, c2, rfl, k2, rfl, ho2, hf2⟩; haveI ho2' := ho2)) | (go_at_call 10; go_loud ((with_reducible refine (iMoveCue2_any (some ⟨g1, 0, none⟩) c1 N ⟨#[110, 101, 119]⟩ x.t _ hc1 ?_ HMV.out.1 HMV.out.2).mono ?_); (· omega); rintro e w' ⟨A3, c3, rfl, k3, rfl, ho3, hf3⟩; haveI ho3' := ho3)) | (go_at_call 11; go_loud ((with_reducible refine (iCueNamed_any (some ⟨g1, 0, none⟩) c1 N ⟨#[110, 101, 119]⟩ _ hc1 ?_ HCN.out.1 HCN.out.2).mono ?_); (· omega); rintro e w' ⟨rfl, k4, rfl⟩)) | (go_at_call 13; go_loud ((with_reducible refine (itext_any x _ HXO.out HCT.out).mono ?_); rintro e w' ⟨rfl, k5, rfl⟩)) | (go_at_call 12; go_loud ((with_reducible refine (HRD.out _ inferInstance inferInstance inferInstance inferInstance).mono ?_); rintro e w' ⟨rfl, k6, rfl⟩)))
      obtain ⟨b9, o9, e9, hb9, hc9⟩ := (inferInstance : Rd 6 cC k1.v (some ⟨g1, 0, none⟩) N).cu hN1
      cases e9
      have hcq := hc9 q hqN
      rw [HAT.out] at hcq
      obtain ⟨n0, n1, n2, n3, n4, n5⟩ := hcq
      clear hc9
      simp only [Nat.zero_add] at n0 n1 n2 n3 n4 n5
      have q0 : ¬ (q : Int) < 0 := by omega
      have q1 : (0 : Int) ≤ (q : Int) := by omega
      have q2 : (q : Int) < (N.length : Int) := by omega
      have q3 : ¬ (N.length : Int) ≤ (q : Int) := by omega
      refine wp_region_ex (by kernel_rfl) (by kernel_rfl) ?_
      (repeat (go_big_quiet_step ((first | (go_at_call 14; go_loud (refine calls_ex (sameCs_any A2 A' c2 c' u _ ?_); omega)) | (go_at_call 14; go_loud (refine calls_ex (sameCs_any A3 (some ⟨g1, 0, none⟩) c3 c1 N _ ?_); omega))))))
      refine wpQuiet_nil ?_
      rintro _ ⟨kq, rfl⟩
      clear n0 n1 n2 n3 n4 n5 q0 q1 q2 q3 d0 d1 d2 d3 d4 d5
      go_upto_region 13 with ((go_at_call 6; go_loud ((with_reducible refine (wide8b_any B d m 5 5000 _ ?_ ?_ ?_ ?_ ?_).mono ?_); (· omega); (· omega); (· omega); (· omega); (· omega); rintro e w' ⟨y, ⟨hy1, hy2⟩, rfl, rfl⟩)))
      have hmv := moved_ok (b := y) HVN.out (by omega) HBD.out
      have hend := moved_end (b := y) HVN.out N.length (Nat.le_refl _) hN1
      have hbd := seP_bd HVN.out N.length (Nat.le_refl _)
      have hit := it_go HVN.out (show itOk 0 y from ⟨by omega, by omega⟩) hmv
      have hse1 := se_go HVN.out
      have hse2 := se_go hmv
      have hl2 := itK_len N 0 y
      haveI hk2 : COks (itK N 0 y) := itK_oks HVN.out (by omega)
      rw [hl2] at hse2
      have hend : seP (itK N 0 y) N.length = seP N N.length + y := by rcases hend with h | h; exact h; omega
      rw [hend] at hse2
      obtain ⟨ht1, ht2, ht3⟩ := tg_len HVN.out hN1
      obtain ⟨hE0, hE1⟩ := hbd
      have hL9 : (itK N 0 y).length ≤ 9 := by omega
      have HIT := hid hit
      have HSA := hid hse1
      have HSB := hid hse2
      have HTG : Hid (tgV N = tgV N ∧ tgE N = 0) := hid ⟨rfl, ht3⟩
      clear hmv hend hit hse1 hse2 hl2 ht3
      generalize seP N N.length = E at *
      generalize itK N 0 y = L2 at *
      obtain ⟨G, hG⟩ : ∃ G, tgV N = G := ⟨_, rfl⟩
      rw [hG] at ht1 ht2
      have HTV : Hid (tgV N = G ∧ tgE N = 0) := hid ⟨hG, HTG.out.2⟩
      clear HTG hG
      have hw : IntKind.i64.wrap (E + y) = E + y := IntWalk.i64_in _ (by omega)
      have hG1 : ¬ (G.length : Int) < 1 := by omega
      have hG2 : ¬ (N.length : Int) < (G.length : Int) := by omega
      go_upto_region 19 with (first | (go_at_call 15; go_loud ((with_reducible refine (iInsertTimeC_any (some ⟨g1, 0, none⟩) c1 N 0 y _ hc1 ?_ HIT.out.1 HIT.out.2).mono ?_); (· omega); rintro e w' ⟨A4, c4, rfl, k7, rfl, ho4, hf4, hc4⟩; haveI ho4' := ho4)) | (go_at_call 16; go_loud ((with_reducible refine (iShowEnd_any (some ⟨g1, 0, none⟩) c1 N _ hc1 ?_ HSA.out.1 HSA.out.2).mono ?_); (· omega); rintro e w' ⟨rfl, k8, rfl⟩)) | (go_at_call 16; go_loud ((with_reducible refine (iShowEnd_any A4 c4 L2 _ hc4 ?_ HSB.out.1 HSB.out.2).mono ?_); (· omega); rintro e w' ⟨rfl, k9, rfl⟩)) | (go_at_call 17; go_loud ((with_reducible refine (iTg_any (some ⟨g1, 0, none⟩) c1 N _ hc1 ?_ HTV.out.1 HTV.out.2).mono ?_); (· omega); rintro e w' ⟨A5, c5, rfl, k10, rfl, ho5, hf5⟩)))
      clear hG1 hG2 hw
      go_upto_region 20 with ((go_at_call 6; go_loud ((with_reducible refine (wide8b_any B d m 7 800 _ ?_ ?_ ?_ ?_ ?_).mono ?_); (· omega); (· omega); (· omega); (· omega); (· omega); rintro e w' ⟨z, ⟨hz1, hz2⟩, rfl, rfl⟩)))
      have hb1' := bt_go HVN.out (f := 0) (u := 10 * z) ⟨by omega, by omega⟩
      have hb2' := bt_go HVN.out (f := 10 * z) (u := 7200001) ⟨by omega, by omega⟩
      have hsum := parts_len HVN.out (a := 10 * z) N.length (Nat.le_refl _)
      generalize btF N 0 (10 * z) N.length = P1 at *
      generalize btF N (10 * z) 7200001 N.length = P2 at *
      have HB1 := hid hb1'
      have HB2 := hid hb2'
      have hsi : (P1.length : Int) + (P2.length : Int) = (N.length : Int) := by omega
      have hsw : IntKind.i64.wrap ((P1.length : Int) + (P2.length : Int)) = (P1.length : Int) + (P2.length : Int) := IntWalk.i64_in _ (by omega)
      clear hb1' hb2' hsum
      go_wp2_with (first | (go_at_call 18; go_loud ((with_reducible refine (iCuesBetween_any (some ⟨g1, 0, none⟩) c1 N 0 (10 * z) _ hc1 ?_ HB1.out.1 HB1.out.2).mono ?_); (· omega); rintro e w' ⟨A6, c6, rfl, k11, rfl, ho6, hf6⟩)) | (go_at_call 18; go_loud ((with_reducible refine (iCuesBetween_any (some ⟨g1, 0, none⟩) c1 N (10 * z) 7200001 _ hc1 ?_ HB2.out.1 HB2.out.2).mono ?_); (· omega); rintro e w' ⟨A7, c7, rfl, k12, rfl, ho7, hf7⟩)))
      (go_ret; refine ⟨by first | rfl | (simp; done), ?_⟩; (refine Ok.toEx ?_; (repeat (first | (with_reducible exact Ok.rf _) | (with_reducible refine Ok.alloc ?_ _) | (with_reducible refine Ok.ex ?_ _) | (with_reducible refine Ok.drew ?_) | (with_reducible refine Ok.setCellI ?_ _ _ _) | (with_reducible refine Ok.exb ?_ _)))))
end
end Go.Proofs.YtdhflckombkimaaGreatDoor
