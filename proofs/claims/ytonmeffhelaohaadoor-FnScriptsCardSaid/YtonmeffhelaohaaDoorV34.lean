/-
  Texts divided into words: both. Conditions: those typed at each theorem.
  Reading texts, in plain words: what the texts of numbers and names hold. Conditions: those typed at each theorem.
  Words read as numbers. Conditions: those typed at each theorem.
-/
import Derived.Test.YtonmeffhelaohaaDoorV33
import Derived.Test.YtonmeffhelaohaaDoorV3
import Derived.Test.YtonmeffhelaohaaDoorV5
import Derived.Test.YtonmeffhelaohaaDoorV9
import Derived.Test.YtonmeffhelaohaaDoorV2
namespace Go.Proofs.YtonmeffhelaohaaDoor
open Go.RowKit
/-- a text of bytes -/
def baL (l : List UInt8) : ByteArray := ⟨l.toArray⟩
theorem baL_data (s : ByteArray) : baL s.data.toList = s := by cases s; rfl
theorem baL_ext (s : ByteArray) (a b : Nat) : s.extract a b = baL ((s.data.toList.take b).drop a) := by
  refine ba_ext ?_
  rw [Lib.extract_data]
  show _ = (s.data.toList.take b).drop a
  first | rfl | (rw [List.drop_take]; done) | (rw [List.take_drop]; done) | (simp [List.drop_take]; done)
/-- the pieces of a text between the bytes c -/
def spS (c : UInt8) (s : ByteArray) : List ByteArray := (splC c s.data.toList).map baL
theorem infoStr : (Tryd.prog.info? 9).map (fun i => (i.zero, i.size, i.bytes)) = some (some (.string ⟨#[]⟩), 1, 16) := by kernel_rfl
/-- the pieces so far: o, and the one that began at f -/
def SpI (c : UInt8) (s : ByteArray) (q f : Nat) (o : List (List UInt8)) : Prop := splC c (s.data.toList.take q) = o ++ [(s.data.toList.take q).drop f] ∧ f ≤ q
theorem spI_0 (c : UInt8) (s : ByteArray) : SpI c s 0 0 [] := ⟨rfl, Nat.le_refl _⟩
theorem spI_hit {c : UInt8} {s : ByteArray} {q f : Nat} {o : List (List UInt8)} (h : SpI c s q f o) (hq : q < s.data.toList.length) (hc : s.data.toList[q] = c) : SpI c s (q + 1) (q + 1) (o ++ [(s.data.toList.take q).drop f]) := by
  refine ⟨?_, Nat.le_refl _⟩
  have := splC_snoc c s.data.toList[q] _ _ _ h.1
  rw [if_pos hc, List.take_append_getElem hq] at this
  rw [this]
  congr 2
  exact (List.drop_eq_nil_of_le (by rw [List.length_take]; omega)).symm
theorem spI_miss {c : UInt8} {s : ByteArray} {q f : Nat} {o : List (List UInt8)} (h : SpI c s q f o) (hq : q < s.data.toList.length) (hc : s.data.toList[q] ≠ c) : SpI c s (q + 1) f o := by
  refine ⟨?_, Nat.le_succ_of_le h.2⟩
  have := splC_snoc c s.data.toList[q] _ _ _ h.1
  rw [if_neg hc, List.take_append_getElem hq] at this
  rw [this, ← List.take_append_getElem hq, List.drop_append_of_le_length (by rw [List.length_take]; have := h.2; omega)]
theorem spI_len {c : UInt8} {s : ByteArray} {q f : Nat} {o : List (List UInt8)} (h : SpI c s q f o) : o.length ≤ q := by
  have h1 : ∀ l : List UInt8, (splC c l).length ≤ l.length + 1 := by
    intro l
    induction l with
    | nil => simp [splC]
    | cons x r ih =>
      unfold splC
      split
      · simp; omega
      · split
        · simp
        · rename_i g t hr; rw [hr] at ih; simp at ih ⊢; omega
  have h2 := h1 (s.data.toList.take q)
  rw [h.1, List.length_append, List.length_take] at h2
  simp at h2
  omega
theorem spI_end {c : UInt8} {s : ByteArray} {f : Nat} {o : List (List UInt8)} (h : SpI c s s.size f o) : spS c s = o.map baL ++ [s.extract f s.size] := by
  have hl : s.data.toList.length = s.size := by simp
  unfold spS
  have h1 := h.1
  rw [show s.data.toList.take s.size = s.data.toList by rw [← hl, List.take_length]] at h1
  rw [h1, List.map_append, baL_ext, show s.data.toList.take s.size = s.data.toList by rw [← hl, List.take_length]]
  rfl
section
set_option maxHeartbeats 3200000
set_option maxRecDepth 20000
theorem sSplit_any (s : ByteArray) (c : UInt8) (w : World) (hs : s.size ≤ 1048576) :
    Calls Tryd.prog 49 #[.string s, .int .u8 (c.toNat : Int)] w fun e w' => ∃ A c', e = .returned (.slice A (spS c s).length c') ∧ ∃ k : Ex w, w' = k.v ∧ Ow 1 sC k.v A (spS c s) := by
  have hl : s.data.toList.length = s.size := by simp
  have hcl : c.toNat < 256 := c.toNat_lt
  go_enter Tryd.func49, Tryd.ntmps49
  go_wp2_with (fail)
  go_loopw [5, 6, 7] (fun v f i wr => ∃ (q fr : Nat) (o : List (List UInt8)), q ≤ s.size ∧ i = .int .i64 q ∧ f = .int .i64 fr ∧ SpI c s q fr o ∧ ∃ j : Ex w, wr = j.v ∧ j.v.ownsRow w.heap.size 9 1 v (o.map baL).length ((o.map baL).flatMap sC)) (fun _ _ i _ => s.size - (intOf i).toNat)
  case atStart => exact ⟨0, 0, [], Nat.zero_le _, rfl, rfl, spI_0 c s, ex_and (fun W => W.ownsRow w.heap.size 9 1 (.slice (some ⟨w.heap.size, 0, none⟩) 0 0) (([] : List (List UInt8)).map baL).length ((([] : List (List UInt8)).map baL).flatMap sC)) (by (refine Ok.toEx ?_; (repeat (first | (with_reducible exact Ok.rf _) | (with_reducible refine Ok.alloc ?_ _) | (with_reducible refine Ok.ex ?_ _) | (with_reducible refine Ok.drew ?_) | (with_reducible refine Ok.setCellI ?_ _ _ _) | (with_reducible refine Ok.exb ?_ _))))) (row_made w w.heap.size (Nat.le_refl _) 9 1 sC)⟩
  case round =>
    obtain ⟨q, fr, o, hq, rfl, rfl, hsp, j0, rfl, hrow⟩ := hrel
    obtain ⟨A1, c1, rfl, hO, hF⟩ := Ow.of_row (f := sC) (fun _ => rfl) hrow
    have HROW := hid hrow
    have HSP := hid hsp
    have hol := spI_len hsp
    have hfq := hsp.2
    clear hrow hsp
    have hlq : (o.map baL).length ≤ 1048576 := by rw [List.length_map]; omega
    by_cases hlt : q < s.size
    · have hx := idx_cB s q q rfl hlt
      have hqi : (q : Int) < (s.size : Int) := by omega
      have hcq : s.data.toList[q]'(by omega) = cB s q := by
        unfold cB
        rw [List.getD_eq_getElem?_getD, List.getElem?_eq_getElem (by omega)]
        rfl
      by_cases he : cB s q = c
      · have HI := hid (spI_hit HSP.out (by omega) (hcq.trans he))
        have heq : ((cB s q).toNat : Int) = (c.toNat : Int) := by rw [he]
        have hsl : ∀ W : World, (Instr.slice 9 (.string s) (some (.int .i64 (fr : Int))) (some (.int .i64 (q : Int))) none).run Tryd.prog W = .ok (.string (s.extract fr q)) W := fun W => by
          have h := run_slice_string (P := Tryd.prog) W 9 s .i64 .i64 (fr : Int) (q : Int) Tryd.underlying9 (by omega) (by omega) (by omega)
          rwa [Int.toNat_natCast, Int.toNat_natCast] at h
        clear hcq he
        go_wp2_with (at_builtin; go_loud (refine wpList_appZ sC _ rfl _ _ _ rfl w.heap.size ?_ _ _ _ _ Tryd.underlying88 infoStr rfl (by omega) (fun _ => ⟨rfl, by simp [sC, Value.oneCell']⟩) (.slice A1 (o.map baL).length c1) (o.map baL) rfl (HROW.out.alloc _) (s.extract fr q) _ _ rfl (cellsB ?_) ?_ ?_ ?_; (· have := j0.size; simp; omega); (· simp); (· omega); (· omega); intro v2 kk2 hA2))
        go_roundw
        case rel => exact ⟨q + 1, q + 1, o ++ [(s.data.toList.take q).drop fr], by omega, by go_num, by go_num, HI.out, ⟨kk2.v, (((Below.refl _ _).trans j0.h).alloc j0.size _).trans kk2.h⟩, rfl, by rw [show (o ++ [(s.data.toList.take q).drop fr]).map baL = o.map baL ++ [s.extract fr q] from by rw [List.map_append, baL_ext]; rfl]; exact hA2.own⟩
        case measure => simp [intOf]; omega
      · have HI := hid (spI_miss HSP.out (by omega) (fun h => he (hcq.symm.trans h)))
        have heq : ¬ ((cB s q).toNat : Int) = (c.toNat : Int) := fun h => he (UInt8.toNat_inj.1 (by omega))
        clear hcq he
        go_wp2_with (fail)
        go_roundw
        case rel => exact ⟨q + 1, fr, o, by omega, by go_num, rfl, HI.out, j0, rfl, HROW.out⟩
        case measure => simp [intOf]; omega
    · obtain rfl : q = s.size := by omega
      have HE := hid (spI_end HSP.out)
      have hqi : ¬ (s.size : Int) < (s.size : Int) := by omega
      have hsl : ∀ W : World, (Instr.slice 9 (.string s) (some (.int .i64 (fr : Int))) none none).run Tryd.prog W = .ok (.string (s.extract fr s.size)) W := fun W => by
        have h := run_slice_string_l (P := Tryd.prog) (w := W) (t := 9) (s := s) Tryd.underlying9 .i64 (fr : Int) (by omega) (by omega)
        rwa [Int.toNat_natCast] at h
      go_wp2_with (at_builtin; go_loud (refine wpList_appZ sC _ rfl _ _ _ rfl w.heap.size ?_ _ _ _ _ Tryd.underlying88 infoStr rfl (by omega) (fun _ => ⟨rfl, by simp [sC, Value.oneCell']⟩) (.slice A1 (o.map baL).length c1) (o.map baL) rfl (HROW.out.alloc _) (s.extract fr s.size) _ _ rfl (cellsB ?_) ?_ ?_ ?_; (· have := j0.size; simp; omega); (· simp); (· omega); (· omega); intro v2 kk2 hA2))
      obtain ⟨A2, c2, rfl, hO2, hF2⟩ := Ow.of_row (f := sC) (fun _ => rfl) hA2.own
      go_ret
      rw [HE.out]
      exact ⟨A2, ⟨c2, rfl⟩, ⟨kk2.v, (((Below.refl _ _).trans j0.h).alloc j0.size _).trans kk2.h⟩, rfl, hO2⟩
/-- the words of a text -/
def wdS (s : ByteArray) : List ByteArray := (spS 32 s).filter fun x => !x.toList.isEmpty
theorem map_data_inj : ∀ {a b : List ByteArray}, a.map (·.data.toList) = b.map (·.data.toList) → a = b
  | [], [], _ => rfl
  | [], y :: b, h => by simp at h
  | x :: a, [], h => by simp at h
  | x :: a, y :: b, h => by
    simp only [List.map_cons, List.cons.injEq] at h
    rw [ba_ext h.1, map_data_inj h.2]
theorem split_sp (s : ByteArray) : Lib.splitB ⟨#[32]⟩ 0 (Lib.countB s ⟨#[32]⟩) s = spS 32 s := by
  refine map_data_inj ?_
  rw [Lib.splitB_data]
  unfold spS
  rw [List.map_map]
  have h := splitK_spl 32 s.data.toList
  have e : Lib.countB s ⟨#[32]⟩ = Lib.count s.data.toList [32] := rfl
  rw [e]
  refine h.trans ?_
  conv => lhs; rw [← List.map_id (splC 32 s.data.toList)]
  exact List.map_congr_left fun x _ => rfl
theorem sp_len (s : ByteArray) : (spS 32 s).length = Lib.countB s ⟨#[32]⟩ + 1 := by
  rw [← split_sp]
  exact Lib.splitB_all ⟨#[32]⟩ (by decide) 0 _ s rfl
theorem sp_le (s : ByteArray) : (spS 32 s).length ≤ s.size + 1 := by
  rw [sp_len]
  have := Lib.countB_le ⟨#[32]⟩ (by decide) _ s (Nat.le_refl _)
  omega
theorem rd_litS (w : World) (e : TypeId) (cs : Array Value) (l : List ByteArray) (hl : l.length ≤ 1048577) (h : cs = (l.map Value.string).toArray) : Rd 1 sC (w.alloc (.cells cs e)) (some ⟨w.heap.size, 0, none⟩) l :=
  ⟨by omega, fun _ => ⟨w.heap.size, 0, rfl, inferInstance, fun k hk j v hv => by
    subst h
    cases j with
    | zero =>
      simp [sC] at hv
      subst hv
      simp [go_sem, hk]
    | succ j => simp [sC] at hv⟩⟩
theorem iSplit_any (s : ByteArray) (w : World) [hm : Ml w] (hs : s.size ≤ 1048576) :
    Calls Tryd.prog 54 #[.string s] w fun e w' => ∃ A c', e = .returned (.slice A (wdS s).length c') ∧ ∃ k : Ex w, w' = k.v ∧ Ow 1 sC k.v A (wdS s) ∧ (wdS s).length ≤ c' := by
  have HM := hid hm.h
  have hle := sp_le s
  have HL := hid (sp_len s)
  have HS := hid (split_sp s)
  have HW : Hid (wdS s = (spS 32 s).filter fun x => !x.toList.isEmpty) := hid rfl
  go_enter Tryd.func54, Tryd.ntmps54
  go_wp2_with (go_at_call 73; go_loud (obtain ⟨mx, hmx⟩ := HM.out; (refine (Tryd.strings_Split s ⟨#[32]⟩ mx _ (by omega) hmx (by decide)).mono ?_); rw [HS.out, ← HL.out]; rintro e w' ⟨rfl, rfl⟩))
  have HR : Hid (Rd 1 sC (w.alloc (.cells ((spS 32 s).map Value.string).toArray 9)) (some ⟨w.heap.size, 0, none⟩) (spS 32 s)) := hid (rd_litS w _ _ _ (by omega) rfl)
  have hE : ∃ k : Ex w, w.alloc (.cells ((spS 32 s).map Value.string).toArray 9) = k.v := ⟨⟨_, (Below.refl _ _).alloc (Nat.le_refl _) _⟩, rfl⟩
  generalize w.alloc (.cells ((spS 32 s).map Value.string).toArray 9) = W1 at *
  obtain ⟨k0, rfl⟩ := hE
  clear HM HL HS hmx
  generalize spS 32 s = L at *
  have hL : L.length ≤ 1048577 := by omega
  go_loopw [3, 9] (fun v i wr => ∃ q : Nat, q ≤ L.length ∧ i = .int .i64 q ∧ ∃ j : Ex k0.v, wr = j.v ∧ j.v.ownsRow k0.v.heap.size 9 1 v ((L.take q).filter fun x => !x.toList.isEmpty).length (((L.take q).filter fun x => !x.toList.isEmpty).flatMap sC)) (fun _ i _ => L.length - (intOf i).toNat)
  case atStart => exact ⟨0, Nat.zero_le _, rfl, Ex.rf _, rfl, row_nil k0.v k0.v.heap.size 9 1 sC⟩
  case round =>
    obtain ⟨q, hq, rfl, j0, rfl, hrow⟩ := hrel
    obtain ⟨o, ho⟩ : ∃ o, (L.take q).filter (fun x => !x.toList.isEmpty) = o := ⟨_, rfl⟩
    rw [ho] at hrow
    obtain ⟨A1, c1, rfl, hO, hF⟩ := Ow.of_row (f := sC) (fun _ => rfl) hrow
    have HROW := hid hrow
    have HO := hid ho
    have hol : o.length ≤ q := by rw [← ho]; exact Nat.le_trans (List.length_filter_le _ _) (by rw [List.length_take]; omega)
    clear hrow ho
    by_cases hlt : q < L.length
    · obtain ⟨b', o', hA, hbw, hc⟩ := HR.out.at_ (by omega)
      cases hA
      have c0 := hc q hlt 0 _ rfl
      simp only [Nat.mul_one, Nat.add_zero, Nat.zero_add] at c0
      have HT : Hid (L.take (q + 1) = L.take q ++ [L[q]]) := hid (List.take_append_getElem hlt).symm
      have hz1 : (0 : Int) ≤ (q : Int) := by omega
      have hz2 : (q : Int) < (L.length : Int) := by omega
      generalize L[q] = x at *
      clear hc
      by_cases he : x.toList.isEmpty = true
      · have HN : Hid ((L.take (q + 1)).filter (fun x => !x.toList.isEmpty) = o) := hid (by rw [HT.out, List.filter_append, HO.out]; simp only [List.filter_cons, List.filter_nil, he]; simp)
        go_wp2_with (fail)
        go_roundw
        case rel => exact ⟨q + 1, by omega, by go_num, j0, rfl, by rw [HN.out]; exact HROW.out⟩
        case measure => simp [intOf]; omega
      · have he : x.toList.isEmpty = false := by simpa using he
        have HN : Hid ((L.take (q + 1)).filter (fun x => !x.toList.isEmpty) = o ++ [x]) := hid (by rw [HT.out, List.filter_append, HO.out]; simp only [List.filter_cons, List.filter_nil, he]; simp)
        go_wp2_with (at_builtin; go_loud (refine wpList_appZ sC _ rfl _ _ _ rfl k0.v.heap.size ?_ _ _ _ _ Tryd.underlying88 infoStr rfl (by omega) (fun _ => ⟨rfl, by simp [sC, Value.oneCell']⟩) (.slice A1 o.length c1) o rfl (HROW.out.alloc _) x _ _ rfl (cellsB ?_) ?_ ?_ ?_; (· have := j0.size; simp; omega); (· simp); (· omega); (· omega); intro v2 kk2 hA2))
        go_roundw
        case rel => exact ⟨q + 1, by omega, by go_num, ⟨kk2.v, (((Below.refl _ _).trans j0.h).alloc j0.size _).trans kk2.h⟩, rfl, by rw [HN.out]; exact hA2.own⟩
        case measure => simp [intOf]; omega
    · obtain rfl : q = L.length := by omega
      have hz2 : ¬ (L.length : Int) < (L.length : Int) := by omega
      rw [List.take_length] at HO
      go_wp2_with (fail)
      go_ret
      rw [HW.out, HO.out]
      exact ⟨A1, c1, rfl, ex_and (fun W => Ow 1 sC W A1 o ∧ o.length ≤ c1) (by (refine Ok.toEx ?_; (repeat (first | (with_reducible exact Ok.rf _) | (with_reducible refine Ok.alloc ?_ _) | (with_reducible refine Ok.ex ?_ _) | (with_reducible refine Ok.drew ?_) | (with_reducible refine Ok.setCellI ?_ _ _ _) | (with_reducible refine Ok.exb ?_ _))))) ⟨hO, (own_cap HROW.out).1⟩⟩
end
end Go.Proofs.YtonmeffhelaohaaDoor
namespace Go.Proofs.YtonmeffhelaohaaDoor
open Go.RowKit
theorem joinC_two (c : UInt8) (g h : List UInt8) (t : List (List UInt8)) : joinC c (g :: h :: t) = g ++ c :: joinC c (h :: t) := rfl
/-- pieces that are joined are found again -/
theorem splC_join (c : UInt8) : ∀ (p : List (List UInt8)), p ≠ [] → (∀ g ∈ p, ∀ x ∈ g, x ≠ c) → splC c (joinC c p) = p
  | [], h, _ => absurd rfl h
  | [g], _, h => splC_none c g (h g (by simp))
  | g :: h :: t, _, hf => by
    rw [joinC_two, splC_app c g _ (hf g (by simp)), splC_join c (h :: t) (by simp) (fun x hx => hf x (by simp [hx]))]
theorem app_data (a b : ByteArray) : (a ++ b).data.toList = a.data.toList ++ b.data.toList := by simp
theorem decS_data (n : Int) : (decS n).data.toList = Lib.itoa n := rfl
theorem itoa_free (n : Int) : ∀ x ∈ Lib.itoa n, x ≠ 32 := by
  intro x hx e
  subst e
  unfold Lib.itoa at hx
  split at hx
  · rcases List.mem_cons.1 hx with h | h
    · cases h
    · exact absurd ((dval_dec _).2.1 _ h) (by decide)
  · exact absurd ((dval_dec _).2.1 _ hx) (by decide)
theorem name_free {s : ByteArray} (h : okN s) : ∀ x ∈ s.data.toList, x ≠ 32 := by
  intro x hx e
  subst e
  obtain ⟨-, -, -, h4⟩ := h
  obtain ⟨i, hi, he⟩ := List.getElem_of_mem hx
  have hl : s.data.toList.length = s.size := by simp
  have h5 := h4 i (by omega)
  have e2 : s[i]'(by omega) = 32 := by rw [← he]; rfl
  rw [e2] at h5
  have : (32 : UInt8).toNat = 32 := rfl
  rcases h5 with ⟨a, b⟩ | ⟨a, b⟩ <;> omega
theorem name_ne {s : ByteArray} (h : okN s) : s.data.toList ≠ [] := by
  obtain ⟨-, h0, -⟩ := h
  have hl : s.data.toList.length = s.size := by simp
  exact fun e => by rw [e] at hl; simp at hl; omega
theorem itoa_ne (n : Int) : Lib.itoa n ≠ [] := by
  unfold Lib.itoa
  split
  · simp
  · exact (dval_dec _).2.2.1
theorem rd_itoa {n : Int} (h0 : -1000000000000000000 < n) (h1 : n < 1000000000000000000) : rdV (baL (Lib.itoa n)) = n ∧ rdO (baL (Lib.itoa n)) = true := rd_yes (s := baL (Lib.itoa n)) (rdD_itoa h0 h1)
theorem rd_back {t : ByteArray} (h : rdO t = true) : Lib.itoa (rdV t) = t.data.toList := by
  unfold rdO at h
  cases hr : rdD t.data.toList with
  | none => rw [hr] at h; cases h
  | some n => rw [(rd_yes hr).1]; exact (rdD_some hr).1
theorem sp_data (s : ByteArray) : (spS 32 s).map (·.data.toList) = splC 32 s.data.toList := by
  unfold spS
  rw [List.map_map]
  conv => rhs; rw [← List.map_id (splC 32 s.data.toList)]
  exact List.map_congr_left fun x _ => rfl
theorem splC_size (c : UInt8) : ∀ (l : List UInt8), ∀ g ∈ splC c l, g.length ≤ l.length
  | [], g, hg => by
    have : g = [] := by simpa [splC] using hg
    subst this; simp
  | y :: r, g, hg => by
    have ih := splC_size c r
    by_cases h : y = c
    · subst h
      rw [splC_eq] at hg
      rcases List.mem_cons.1 hg with rfl | hg
      · simp
      · have := ih g hg; simp; omega
    · cases hr : splC c r with
      | nil => exact absurd hr (splC_ne c r)
      | cons z t =>
        rw [splC_cons h hr] at hg
        rw [hr] at ih
        rcases List.mem_cons.1 hg with rfl | hg
        · have := ih z (by simp); simp; omega
        · have := ih g (by simp [hg]); simp; omega
theorem sp_size {s g : ByteArray} (h : g ∈ spS 32 s) : g.size ≤ s.size := by
  obtain ⟨l, hl, rfl⟩ := List.mem_map.1 h
  have := splC_size 32 _ l hl
  have e1 : (baL l).size = l.length := by show l.toArray.size = _; simp
  have e2 : s.data.toList.length = s.size := by simp
  omega
theorem itoa_freeC {c : UInt8} (hc : ¬ isD c) (h45 : c ≠ 45) (n : Int) : ∀ x ∈ Lib.itoa n, x ≠ c := by
  intro x hx e
  subst e
  unfold Lib.itoa at hx
  split at hx
  · rcases List.mem_cons.1 hx with h | h
    · exact h45 h
    · exact hc ((dval_dec _).2.1 _ h)
  · exact hc ((dval_dec _).2.1 _ hx)
theorem joinC_snoc (c : UInt8) : ∀ p : List (List UInt8), p ≠ [] → ∀ g, joinC c (p ++ [g]) = joinC c p ++ c :: g
  | [], h, _ => absurd rfl h
  | [a], _, g => rfl
  | a :: b :: t, _, g => by
    have ih := joinC_snoc c (b :: t) (by simp) g
    show joinC c (a :: b :: (t ++ [g])) = _
    rw [joinC_two, joinC_two, show b :: (t ++ [g]) = (b :: t) ++ [g] from rfl, ih]
    simp
theorem idx_nil (c : UInt8) : Lib.index [] [c] = -1 := rfl
theorem idx_eq (c : UInt8) (r : List UInt8) : Lib.index (c :: r) [c] = 0 := by rw [Lib.index]; simp [List.isPrefixOf]
theorem idx_ne {c x : UInt8} (h : x ≠ c) (r : List UInt8) : Lib.index (x :: r) [c] = if Lib.index r [c] = -1 then -1 else Lib.index r [c] + 1 := by
  have hp : ([c] : List UInt8).isPrefixOf (x :: r) = false := by simp [List.isPrefixOf, Ne.symm h]
  rw [Lib.index, hp]
  simp
/-- the library's cut, by the pieces -/
theorem cut_spl (c : UInt8) : ∀ (l g : List UInt8) (t : List (List UInt8)), splC c l = g :: t → Lib.cut l [c] = (g, joinC c t, !t.isEmpty)
  | [], g, t, h => by
    obtain ⟨rfl, rfl⟩ : g = [] ∧ t = [] := by simpa [splC, eq_comm] using h
    unfold Lib.cut
    rw [idx_nil, if_neg (by omega)]
    rfl
  | x :: r, g, t, h => by
    by_cases hx : x = c
    · subst hx
      rw [splC_eq] at h
      obtain ⟨rfl, rfl⟩ := List.cons.inj h
      unfold Lib.cut
      rw [idx_eq, if_pos (by omega), joinC_spl]
      have := splC_ne x r
      cases hs : splC x r with
      | nil => exact absurd hs this
      | cons a b => rfl
    · cases hr : splC c r with
      | nil => exact absurd hr (splC_ne c r)
      | cons g0 t0 =>
        rw [splC_cons hx hr] at h
        obtain ⟨rfl, rfl⟩ := List.cons.inj h
        have ih := cut_spl c r g0 t0 hr
        have hge := Lib.index_ge r [c]
        unfold Lib.cut at ih ⊢
        rw [idx_ne hx]
        by_cases hm : Lib.index r [c] = -1
        · rw [hm, if_neg (by omega)] at ih
          rw [if_pos hm, if_neg (by omega)]
          simp only [Prod.mk.injEq] at ih ⊢
          exact ⟨by rw [ih.1], ih.2.1, ih.2.2⟩
        · rw [if_pos (by omega)] at ih
          rw [if_neg hm, if_pos (by omega)]
          simp only [Prod.mk.injEq] at ih ⊢
          obtain ⟨j, hj⟩ : ∃ j : Nat, Lib.index r [c] = j := ⟨(Lib.index r [c]).toNat, by omega⟩
          rw [hj] at ih ⊢
          rw [show ((j : Int) + 1).toNat = j + 1 by omega]
          rw [show ((j : Int)).toNat = j by omega] at ih
          refine ⟨by rw [List.take_succ_cons, ih.1], ?_, ih.2.2⟩
          rw [← ih.2.1, show j + 1 + [c].length = (j + [c].length) + 1 by omega, List.drop_succ_cons]
theorem rd_free {l : List UInt8} {n : Int} (h : rdD l = some n) {c : UInt8} (hc : ¬ isD c) (h45 : c ≠ 45) : ∀ x ∈ l, x ≠ c := by
  have := (rdD_some h).1
  rw [← this]
  exact itoa_freeC hc h45 n
theorem baL_list (l : List UInt8) : (baL l).data.toList = l := by unfold baL; simp
theorem len_one {α : Type} {r : List α} (h : r.length = 1) : ∃ v, r = [v] := by
  match r, h with
  | [v], _ => exact ⟨v, rfl⟩
theorem len_two {α : Type} {r : List α} (h : r.length = 2) : ∃ v n, r = [v, n] := by
  match r, h with
  | [v, n], _ => exact ⟨v, n, rfl⟩
theorem wd_size {s g : ByteArray} (h : g ∈ wdS s) : g.size ≤ s.size := sp_size (List.mem_filter.1 h).1
theorem wd_len (s : ByteArray) : (wdS s).length ≤ s.size + 1 := Nat.le_trans (List.length_filter_le _ _) (sp_le s)
end Go.Proofs.YtonmeffhelaohaaDoor
namespace Go.Proofs.YtonmeffhelaohaaDoor
open Go.RowKit
def nuB (l : List ByteArray) : Bool := l.all rdO
def nuV (l : List ByteArray) : List Int := if nuB l then l.map rdV else []
theorem nu_yes {l : List ByteArray} (h : ∀ x ∈ l, rdO x = true) : nuV l = l.map rdV ∧ nuB l = true := by
  have : nuB l = true := List.all_eq_true.2 h
  unfold nuV
  rw [if_pos this]
  exact ⟨rfl, this⟩
theorem nu_no {l : List ByteArray} (h : ∃ x ∈ l, rdO x = false) : nuV l = [] ∧ nuB l = false := by
  have : nuB l = false := by
    obtain ⟨x, hx, h1⟩ := h
    cases hb : nuB l with
    | false => rfl
    | true => have := List.all_eq_true.1 hb x hx; rw [h1] at this; cases this
  unfold nuV
  rw [if_neg (by rw [this]; simp)]
  exact ⟨rfl, this⟩
section
set_option maxHeartbeats 3200000
set_option maxRecDepth 20000
end
end Go.Proofs.YtonmeffhelaohaaDoor
