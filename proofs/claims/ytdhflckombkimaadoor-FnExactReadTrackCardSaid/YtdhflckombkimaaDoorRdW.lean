/-
  Texts divided into words: both. Conditions: those typed at each theorem.
-/
import Derived.Test.YtdhflckombkimaaDoorRdN
import Derived.Test.YtdhflckombkimaaDoorSplP
import Derived.Test.YtdhflckombkimaaDoorStr
import Derived.Test.YtdhflckombkimaaDoorRdT
import Derived.Test.YtdhflckombkimaaDoorAppB
namespace Go.Proofs.YtdhflckombkimaaDoor
open Go.RowKit
/-- a text of bytes -/
def baL (l : List UInt8) : ByteArray := ⟨l.toArray⟩
theorem baL_data (s : ByteArray) : baL s.data.toList = s := by cases s; rfl
theorem baL_ext (s : ByteArray) (a b : Nat) : s.extract a b = baL ((s.data.toList.take b).drop a) := by
  refine ba_ext ?_
  rw [Lib.extract_data]
  show _ = (s.data.toList.take b).drop a
  first | rfl | (rw [List.drop_take]; done) | (rw [List.take_drop]; done) | (simp [List.drop_take]; done)
/-- the pieces of a text between the bytes c -/
def spS (c : UInt8) (s : ByteArray) : List ByteArray := (splC c s.data.toList).map baL
theorem infoStr : (Tryd.prog.info? 9).map (fun i => (i.zero, i.size, i.bytes)) = some (some (.string ⟨#[]⟩), 1, 16) := by kernel_rfl
/-- the pieces so far: o, and the one that began at f -/
def SpI (c : UInt8) (s : ByteArray) (q f : Nat) (o : List (List UInt8)) : Prop := splC c (s.data.toList.take q) = o ++ [(s.data.toList.take q).drop f] ∧ f ≤ q
theorem spI_0 (c : UInt8) (s : ByteArray) : SpI c s 0 0 [] := ⟨rfl, Nat.le_refl _⟩
theorem spI_hit {c : UInt8} {s : ByteArray} {q f : Nat} {o : List (List UInt8)} (h : SpI c s q f o) (hq : q < s.data.toList.length) (hc : s.data.toList[q] = c) : SpI c s (q + 1) (q + 1) (o ++ [(s.data.toList.take q).drop f]) := by
  refine ⟨?_, Nat.le_refl _⟩
  have := splC_snoc c s.data.toList[q] _ _ _ h.1
  rw [if_pos hc, List.take_append_getElem hq] at this
  rw [this]
  congr 2
  exact (List.drop_eq_nil_of_le (by rw [List.length_take]; omega)).symm
theorem spI_miss {c : UInt8} {s : ByteArray} {q f : Nat} {o : List (List UInt8)} (h : SpI c s q f o) (hq : q < s.data.toList.length) (hc : s.data.toList[q] ≠ c) : SpI c s (q + 1) f o := by
  refine ⟨?_, Nat.le_succ_of_le h.2⟩
  have := splC_snoc c s.data.toList[q] _ _ _ h.1
  rw [if_neg hc, List.take_append_getElem hq] at this
  rw [this, ← List.take_append_getElem hq, List.drop_append_of_le_length (by rw [List.length_take]; have := h.2; omega)]
theorem spI_len {c : UInt8} {s : ByteArray} {q f : Nat} {o : List (List UInt8)} (h : SpI c s q f o) : o.length ≤ q := by
  have h1 : ∀ l : List UInt8, (splC c l).length ≤ l.length + 1 := by
    intro l
    induction l with
    | nil => simp [splC]
    | cons x r ih =>
      unfold splC
      split
      · simp; omega
      · split
        · simp
        · rename_i g t hr; rw [hr] at ih; simp at ih ⊢; omega
  have h2 := h1 (s.data.toList.take q)
  rw [h.1, List.length_append, List.length_take] at h2
  simp at h2
  omega
theorem spI_end {c : UInt8} {s : ByteArray} {f : Nat} {o : List (List UInt8)} (h : SpI c s s.size f o) : spS c s = o.map baL ++ [s.extract f s.size] := by
  have hl : s.data.toList.length = s.size := by simp
  unfold spS
  have h1 := h.1
  rw [show s.data.toList.take s.size = s.data.toList by rw [← hl, List.take_length]] at h1
  rw [h1, List.map_append, baL_ext, show s.data.toList.take s.size = s.data.toList by rw [← hl, List.take_length]]
  rfl
section
set_option maxHeartbeats 3200000
set_option maxRecDepth 20000
theorem sSplit_any (s : ByteArray) (c : UInt8) (w : World) (hs : s.size ≤ 1048576) :
    Calls Tryd.prog 71 #[.string s, .int .u8 (c.toNat : Int)] w fun e w' => ∃ A c', e = .returned (.slice A (spS c s).length c') ∧ ∃ k : Ex w, w' = k.v ∧ Ow 1 sC k.v A (spS c s) := by
  have hl : s.data.toList.length = s.size := by simp
  have hcl : c.toNat < 256 := c.toNat_lt
  go_enter Tryd.func71, Tryd.ntmps71
  go_wp2_with (fail)
  go_loopw [5, 6, 7] (fun v f i wr => ∃ (q fr : Nat) (o : List (List UInt8)), q ≤ s.size ∧ i = .int .i64 q ∧ f = .int .i64 fr ∧ SpI c s q fr o ∧ ∃ j : Ex w, wr = j.v ∧ j.v.ownsRow w.heap.size 9 1 v (o.map baL).length ((o.map baL).flatMap sC)) (fun _ _ i _ => s.size - (intOf i).toNat)
  case atStart => exact ⟨0, 0, [], Nat.zero_le _, rfl, rfl, spI_0 c s, ex_and (fun W => W.ownsRow w.heap.size 9 1 (.slice (some ⟨w.heap.size, 0, none⟩) 0 0) (([] : List (List UInt8)).map baL).length ((([] : List (List UInt8)).map baL).flatMap sC)) (by (refine Ok.toEx ?_; (repeat (first | (with_reducible exact Ok.rf _) | (with_reducible refine Ok.alloc ?_ _) | (with_reducible refine Ok.ex ?_ _) | (with_reducible refine Ok.drew ?_) | (with_reducible refine Ok.setCellI ?_ _ _ _) | (with_reducible refine Ok.exb ?_ _))))) (row_made w w.heap.size (Nat.le_refl _) 9 1 sC)⟩
  case round =>
    obtain ⟨q, fr, o, hq, rfl, rfl, hsp, j0, rfl, hrow⟩ := hrel
    obtain ⟨A1, c1, rfl, hO, hF⟩ := Ow.of_row (f := sC) (fun _ => rfl) hrow
    have HROW := hid hrow
    have HSP := hid hsp
    have hol := spI_len hsp
    have hfq := hsp.2
    clear hrow hsp
    have hlq : (o.map baL).length ≤ 1048576 := by rw [List.length_map]; omega
    by_cases hlt : q < s.size
    · have hx := idx_cB s q q rfl hlt
      have hqi : (q : Int) < (s.size : Int) := by omega
      have hcq : s.data.toList[q]'(by omega) = cB s q := by
        unfold cB
        rw [List.getD_eq_getElem?_getD, List.getElem?_eq_getElem (by omega)]
        rfl
      by_cases he : cB s q = c
      · have HI := hid (spI_hit HSP.out (by omega) (hcq.trans he))
        have heq : ((cB s q).toNat : Int) = (c.toNat : Int) := by rw [he]
        have hsl : ∀ W : World, (Instr.slice 9 (.string s) (some (.int .i64 (fr : Int))) (some (.int .i64 (q : Int))) none).run Tryd.prog W = .ok (.string (s.extract fr q)) W := fun W => by
          have h := run_slice_string (P := Tryd.prog) W 9 s .i64 .i64 (fr : Int) (q : Int) Tryd.underlying9 (by omega) (by omega) (by omega)
          rwa [Int.toNat_natCast, Int.toNat_natCast] at h
        clear hcq he
        go_wp2_with (at_builtin; go_loud (refine wpList_appZ sC _ rfl _ _ _ rfl w.heap.size ?_ _ _ _ _ Tryd.underlying65 infoStr rfl (by omega) (fun _ => ⟨rfl, by simp [sC, Value.oneCell']⟩) (.slice A1 (o.map baL).length c1) (o.map baL) rfl (HROW.out.alloc _) (s.extract fr q) _ _ rfl (cellsB ?_) ?_ ?_ ?_; (· have := j0.size; simp; omega); (· simp); (· omega); (· omega); intro v2 kk2 hA2))
        go_roundw
        case rel => exact ⟨q + 1, q + 1, o ++ [(s.data.toList.take q).drop fr], by omega, by go_num, by go_num, HI.out, ⟨kk2.v, (((Below.refl _ _).trans j0.h).alloc j0.size _).trans kk2.h⟩, rfl, by rw [show (o ++ [(s.data.toList.take q).drop fr]).map baL = o.map baL ++ [s.extract fr q] from by rw [List.map_append, baL_ext]; rfl]; exact hA2.own⟩
        case measure => simp [intOf]; omega
      · have HI := hid (spI_miss HSP.out (by omega) (fun h => he (hcq.symm.trans h)))
        have heq : ¬ ((cB s q).toNat : Int) = (c.toNat : Int) := fun h => he (UInt8.toNat_inj.1 (by omega))
        clear hcq he
        go_wp2_with (fail)
        go_roundw
        case rel => exact ⟨q + 1, fr, o, by omega, by go_num, rfl, HI.out, j0, rfl, HROW.out⟩
        case measure => simp [intOf]; omega
    · obtain rfl : q = s.size := by omega
      have HE := hid (spI_end HSP.out)
      have hqi : ¬ (s.size : Int) < (s.size : Int) := by omega
      have hsl : ∀ W : World, (Instr.slice 9 (.string s) (some (.int .i64 (fr : Int))) none none).run Tryd.prog W = .ok (.string (s.extract fr s.size)) W := fun W => by
        have h := run_slice_string_l (P := Tryd.prog) (w := W) (t := 9) (s := s) Tryd.underlying9 .i64 (fr : Int) (by omega) (by omega)
        rwa [Int.toNat_natCast] at h
      go_wp2_with (at_builtin; go_loud (refine wpList_appZ sC _ rfl _ _ _ rfl w.heap.size ?_ _ _ _ _ Tryd.underlying65 infoStr rfl (by omega) (fun _ => ⟨rfl, by simp [sC, Value.oneCell']⟩) (.slice A1 (o.map baL).length c1) (o.map baL) rfl (HROW.out.alloc _) (s.extract fr s.size) _ _ rfl (cellsB ?_) ?_ ?_ ?_; (· have := j0.size; simp; omega); (· simp); (· omega); (· omega); intro v2 kk2 hA2))
      obtain ⟨A2, c2, rfl, hO2, hF2⟩ := Ow.of_row (f := sC) (fun _ => rfl) hA2.own
      go_ret
      rw [HE.out]
      exact ⟨A2, ⟨c2, rfl⟩, ⟨kk2.v, (((Below.refl _ _).trans j0.h).alloc j0.size _).trans kk2.h⟩, rfl, hO2⟩
/-- the words of a text -/
def wdS (s : ByteArray) : List ByteArray := (spS 32 s).filter fun x => !x.toList.isEmpty
theorem map_data_inj : ∀ {a b : List ByteArray}, a.map (·.data.toList) = b.map (·.data.toList) → a = b
  | [], [], _ => rfl
  | [], y :: b, h => by simp at h
  | x :: a, [], h => by simp at h
  | x :: a, y :: b, h => by
    simp only [List.map_cons, List.cons.injEq] at h
    rw [ba_ext h.1, map_data_inj h.2]
theorem split_sp (s : ByteArray) : Lib.splitB ⟨#[32]⟩ 0 (Lib.countB s ⟨#[32]⟩) s = spS 32 s := by
  refine map_data_inj ?_
  rw [Lib.splitB_data]
  unfold spS
  rw [List.map_map]
  have h := splitK_spl 32 s.data.toList
  have e : Lib.countB s ⟨#[32]⟩ = Lib.count s.data.toList [32] := rfl
  rw [e]
  refine h.trans ?_
  conv => lhs; rw [← List.map_id (splC 32 s.data.toList)]
  exact List.map_congr_left fun x _ => rfl
theorem sp_len (s : ByteArray) : (spS 32 s).length = Lib.countB s ⟨#[32]⟩ + 1 := by
  rw [← split_sp]
  exact Lib.splitB_all ⟨#[32]⟩ (by decide) 0 _ s rfl
theorem sp_le (s : ByteArray) : (spS 32 s).length ≤ s.size + 1 := by
  rw [sp_len]
  have := Lib.countB_le ⟨#[32]⟩ (by decide) _ s (Nat.le_refl _)
  omega
theorem rd_litS (w : World) (e : TypeId) (cs : Array Value) (l : List ByteArray) (hl : l.length ≤ 1048577) (h : cs = (l.map Value.string).toArray) : Rd 1 sC (w.alloc (.cells cs e)) (some ⟨w.heap.size, 0, none⟩) l :=
  ⟨by omega, fun _ => ⟨w.heap.size, 0, rfl, inferInstance, fun k hk j v hv => by
    subst h
    cases j with
    | zero =>
      simp [sC] at hv
      subst hv
      simp [go_sem, hk]
    | succ j => simp [sC] at hv⟩⟩
theorem iSplit_any (s : ByteArray) (w : World) [hm : Ml w] (hs : s.size ≤ 1048576) :
    Calls Tryd.prog 37 #[.string s] w fun e w' => ∃ A c', e = .returned (.slice A (wdS s).length c') ∧ ∃ k : Ex w, w' = k.v ∧ Ow 1 sC k.v A (wdS s) ∧ (wdS s).length ≤ c' := by
  have HM := hid hm.h
  have hle := sp_le s
  have HL := hid (sp_len s)
  have HS := hid (split_sp s)
  have HW : Hid (wdS s = (spS 32 s).filter fun x => !x.toList.isEmpty) := hid rfl
  go_enter Tryd.func37, Tryd.ntmps37
  go_wp2_with (go_at_call 74; go_loud (obtain ⟨mx, hmx⟩ := HM.out; (refine (Tryd.strings_Split s ⟨#[32]⟩ mx _ (by omega) hmx (by decide)).mono ?_); rw [HS.out, ← HL.out]; rintro e w' ⟨rfl, rfl⟩))
  have HR : Hid (Rd 1 sC (w.alloc (.cells ((spS 32 s).map Value.string).toArray 9)) (some ⟨w.heap.size, 0, none⟩) (spS 32 s)) := hid (rd_litS w _ _ _ (by omega) rfl)
  have hE : ∃ k : Ex w, w.alloc (.cells ((spS 32 s).map Value.string).toArray 9) = k.v := ⟨⟨_, (Below.refl _ _).alloc (Nat.le_refl _) _⟩, rfl⟩
  generalize w.alloc (.cells ((spS 32 s).map Value.string).toArray 9) = W1 at *
  obtain ⟨k0, rfl⟩ := hE
  clear HM HL HS hmx
  generalize spS 32 s = L at *
  have hL : L.length ≤ 1048577 := by omega
  go_loopw [3, 9] (fun v i wr => ∃ q : Nat, q ≤ L.length ∧ i = .int .i64 q ∧ ∃ j : Ex k0.v, wr = j.v ∧ j.v.ownsRow k0.v.heap.size 9 1 v ((L.take q).filter fun x => !x.toList.isEmpty).length (((L.take q).filter fun x => !x.toList.isEmpty).flatMap sC)) (fun _ i _ => L.length - (intOf i).toNat)
  case atStart => exact ⟨0, Nat.zero_le _, rfl, Ex.rf _, rfl, row_nil k0.v k0.v.heap.size 9 1 sC⟩
  case round =>
    obtain ⟨q, hq, rfl, j0, rfl, hrow⟩ := hrel
    obtain ⟨o, ho⟩ : ∃ o, (L.take q).filter (fun x => !x.toList.isEmpty) = o := ⟨_, rfl⟩
    rw [ho] at hrow
    obtain ⟨A1, c1, rfl, hO, hF⟩ := Ow.of_row (f := sC) (fun _ => rfl) hrow
    have HROW := hid hrow
    have HO := hid ho
    have hol : o.length ≤ q := by rw [← ho]; exact Nat.le_trans (List.length_filter_le _ _) (by rw [List.length_take]; omega)
    clear hrow ho
    by_cases hlt : q < L.length
    · obtain ⟨b', o', hA, hbw, hc⟩ := HR.out.at_ (by omega)
      cases hA
      have c0 := hc q hlt 0 _ rfl
      simp only [Nat.mul_one, Nat.add_zero, Nat.zero_add] at c0
      have HT : Hid (L.take (q + 1) = L.take q ++ [L[q]]) := hid (List.take_append_getElem hlt).symm
      have hz1 : (0 : Int) ≤ (q : Int) := by omega
      have hz2 : (q : Int) < (L.length : Int) := by omega
      generalize L[q] = x at *
      clear hc
      by_cases he : x.toList.isEmpty = true
      · have HN : Hid ((L.take (q + 1)).filter (fun x => !x.toList.isEmpty) = o) := hid (by rw [HT.out, List.filter_append, HO.out]; simp only [List.filter_cons, List.filter_nil, he]; simp)
        go_wp2_with (fail)
        go_roundw
        case rel => exact ⟨q + 1, by omega, by go_num, j0, rfl, by rw [HN.out]; exact HROW.out⟩
        case measure => simp [intOf]; omega
      · have he : x.toList.isEmpty = false := by simpa using he
        have HN : Hid ((L.take (q + 1)).filter (fun x => !x.toList.isEmpty) = o ++ [x]) := hid (by rw [HT.out, List.filter_append, HO.out]; simp only [List.filter_cons, List.filter_nil, he]; simp)
        go_wp2_with (at_builtin; go_loud (refine wpList_appZ sC _ rfl _ _ _ rfl k0.v.heap.size ?_ _ _ _ _ Tryd.underlying65 infoStr rfl (by omega) (fun _ => ⟨rfl, by simp [sC, Value.oneCell']⟩) (.slice A1 o.length c1) o rfl (HROW.out.alloc _) x _ _ rfl (cellsB ?_) ?_ ?_ ?_; (· have := j0.size; simp; omega); (· simp); (· omega); (· omega); intro v2 kk2 hA2))
        go_roundw
        case rel => exact ⟨q + 1, by omega, by go_num, ⟨kk2.v, (((Below.refl _ _).trans j0.h).alloc j0.size _).trans kk2.h⟩, rfl, by rw [HN.out]; exact hA2.own⟩
        case measure => simp [intOf]; omega
    · obtain rfl : q = L.length := by omega
      have hz2 : ¬ (L.length : Int) < (L.length : Int) := by omega
      rw [List.take_length] at HO
      go_wp2_with (fail)
      go_ret
      rw [HW.out, HO.out]
      exact ⟨A1, c1, rfl, ex_and (fun W => Ow 1 sC W A1 o ∧ o.length ≤ c1) (by (refine Ok.toEx ?_; (repeat (first | (with_reducible exact Ok.rf _) | (with_reducible refine Ok.alloc ?_ _) | (with_reducible refine Ok.ex ?_ _) | (with_reducible refine Ok.drew ?_) | (with_reducible refine Ok.setCellI ?_ _ _ _) | (with_reducible refine Ok.exb ?_ _))))) ⟨hO, (own_cap HROW.out).1⟩⟩
end
end Go.Proofs.YtdhflckombkimaaDoor
