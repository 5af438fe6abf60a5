/-
  ReadTrack: the program. Conditions: those typed at each theorem.
-/
import Derived.Test.YtdhflckombkimaaDoorT33
import Derived.Test.YtdhflckombkimaaDoorT4
import Derived.Laws.OwnMore
namespace Go.Proofs.YtdhflckombkimaaDoor
open Go.RowKit
theorem cu_size (x : ByteArray) : (cuA x).size ≤ x.size ∧ (cuZ x).size ≤ x.size := by
  have hl : x.data.toList.length = x.size := by simp
  have e : ∀ l : List UInt8, (⟨l.toArray⟩ : ByteArray).size = l.length := fun l => by show l.toArray.size = _; simp
  unfold cuA cuZ Lib.cut
  split
  · exact ⟨by dsimp only; rw [e, List.length_take]; omega, by dsimp only; rw [e, List.length_drop]; omega⟩
  · exact ⟨by dsimp only; rw [e]; omega, by dsimp only; rw [e]; simp⟩
section
set_option maxHeartbeats 3200000
set_option maxRecDepth 20000
theorem cut_any (s : ByteArray) (w : World) [hm : Ml w] (hs : s.size ≤ 1048576) :
    Calls Tryd.prog 42 #[.string s, .string ⟨#[58]⟩] w fun e w' => ∃ b, e = .returned (.tuple #[.string (cuA s), .string (cuZ s), .bool b]) ∧ ∃ k : Ex w, w' = k.v := by
  obtain ⟨mx, hmx⟩ := hm.h
  refine (Tryd.strings_Cut s ⟨#[58]⟩ mx w (by omega) hmx).mono ?_
  rintro e w' ⟨rfl, n, rfl⟩
  exact ⟨_, rfl, ⟨w.drewN n, ⟨rfl, rfl, rfl, Nat.le_refl _, fun _ _ => rfl⟩⟩, rfl⟩
/-- words[1:] -/
theorem sl1 (b o n c : Nat) (hn : 1 ≤ n) (hc : n ≤ c) : ∃ q, (∀ W : World, (Instr.slice 65 (.slice (some ⟨b, o, none⟩) n c) (some (.int .i64 1)) none none).run Tryd.prog W = .ok (.slice (some ⟨b, q, none⟩) (n - 1) (c - 1)) W) ∧ (1 < n → q = o + 1) := by
  by_cases h : c = 1
  · obtain rfl : n = 1 := by omega
    subst h
    refine ⟨o, fun W => ?_, fun h => absurd h (by omega)⟩
    rw [run_slice_l (P := Tryd.prog) (w := W) (ht := Tryd.underlying65) (h0 := by omega) (h1 := by omega)]
    simp [go_sem, sliced, Program.elem, Tryd.underlying65]
  · refine ⟨o + 1, fun W => ?_, fun _ => rfl⟩
    rw [run_slice_l (P := Tryd.prog) (w := W) (ht := Tryd.underlying65) (h0 := by omega) (h1 := by omega)]
    simp [go_sem, sliced, Program.elem, Tryd.underlying65]
    omega
theorem iReadT_any (s : ByteArray) (w : World) [Tb w] [Es w] [Er w] [Ml w] (hs : s.size ≤ 1048576) :
    Calls Tryd.prog 12 #[.string s] w (RkPost s w) := by
  have HZ : Hid (∀ g ∈ wdS s, g.size ≤ 1048576) := hid fun g hg => Nat.le_trans (wd_size hg) hs
  have hle := wd_len s
  by_cases h0 : wdS s = []
  · have HE := hid h0
    have HN := hid (rk_no (s := s) fun n l hk => by
      obtain ⟨h1, h2⟩ := isK_words hk
      rw [h2, h1] at h0; simp at h0)
    clear h0
    go_enter Tryd.func12, Tryd.ntmps12
    go_wp2_with ((go_at_call 37; go_loud ((refine (iSplit_any s _ hs).mono ?_); rw [HE.out]; rintro e w' ⟨A, c, rfl, k, rfl, ho, hcap⟩; haveI ho := ho)))
    (refine bodyPost_ret (v := _) (by simp [results, Tryd.results12, go_sem]; rfl) rfl ?_; refine rkPost_no HN.out rfl ?_; (refine Ok.toEx ?_; (repeat (first | (with_reducible exact Ok.rf _) | (with_reducible refine Ok.alloc ?_ _) | (with_reducible refine Ok.ex ?_ _) | (with_reducible refine Ok.drew ?_) | (with_reducible refine Ok.setCellI ?_ _ _ _) | (with_reducible refine Ok.exb ?_ _)))))
  · obtain ⟨nm, r, hLr⟩ : ∃ nm r, wdS s = nm :: r := by
      cases hx : wdS s with
      | nil => exact absurd hx h0
      | cons x r => exact ⟨x, r, rfl⟩
    have HNO : Hid ((r.all kyB = false ∨ vT nm (r.map kyV) = false) → rkN s = ⟨#[]⟩ ∧ rkL s = [] ∧ rkB s = false) := hid fun h => rk_no (isK_no (.inr hLr) h)
    have HX : Hid (∀ n l, IsK s n l → nm = n ∧ r.map kyV = l) := hid fun n l hk => by
      obtain ⟨h1, -, h2, -⟩ := isK_get (.inr hLr) hk
      exact ⟨h1, h2⟩
    have HLR := hid hLr
    have hnz : nm.size ≤ 1048576 := HZ.out nm (by rw [hLr]; simp)
    have ZR : Hid (∀ y ∈ r, y.size ≤ 1048576) := hid fun y hy => HZ.out y (by rw [hLr]; simp [hy])
    have HLN : Hid ((wdS s).length = r.length + 1) := hid (by rw [hLr]; simp)
    clear HZ h0 hLr
    go_enter Tryd.func12, Tryd.ntmps12
    go_upto_region 2 with ((go_at_call 37; go_loud ((refine (iSplit_any s _ hs).mono ?_); rintro e w' ⟨A, c, rfl, k, rfl, ho, hcap⟩; haveI ho := ho)))
    have HA := hid ((inferInstance : Rd 1 sC k.v A (wdS s)).at_)
    obtain ⟨L, hL⟩ : ∃ L, wdS s = L := ⟨_, rfl⟩
    rw [hL] at HLR hle HA ho HLN hcap ⊢
    clear hL
    obtain ⟨b, o, rfl, hbw, hc⟩ := HA.out (by have := HLN.out; omega)
    have hat : ∀ (j : Nat) (y : ByteArray), L[j]? = some y → k.v.cell? ⟨b, o + j, none⟩ = some (.string y) := fun j y hj => by
      obtain ⟨hjl, rfl⟩ := List.getElem?_eq_some_iff.1 hj
      have := hc j hjl 0 _ rfl
      simpa using this
    have c0 := hat 0 nm (by rw [HLR.out]; rfl)
    rw [Nat.add_zero] at c0
    obtain ⟨qo, hsl, hqo⟩ := sl1 b o L.length c (by have := HLN.out; omega) hcap
    have hl1 : L.length - 1 = r.length := by have := HLN.out; omega
    rw [hl1] at hsl
    have HR : Hid (∀ (j : Nat) (y : ByteArray), r[j]? = some y → k.v.cell? ⟨b, qo + j, none⟩ = some (.string y)) := hid fun j y hj => by
      have hj2 := (List.getElem?_eq_some_iff.1 hj).1
      rw [hqo (by have := HLN.out; omega), show o + 1 + j = o + (j + 1) by omega]
      exact hat (j + 1) y (by rw [HLR.out]; exact hj)
    have l0 : (0 : Int) < (L.length : Int) := by have := HLN.out; omega
    have l0n : ¬ (L.length : Int) = 0 := by omega
    have l1 : (1 : Int) ≤ (L.length : Int) := by have := HLN.out; omega
    have lN : 0 < L.length := by have := HLN.out; omega
    have lE : L ≠ [] := List.length_pos_iff.1 lN
    have lE2 : ((L.length : Int) == 0) = false := by rw [beq_eq_false_iff_ne]; exact l0n
    have hrl : r.length ≤ 1048576 := by have := HLN.out; omega
    clear hat hc HA hqo hl1
    go_wp2_with (fail)
    clear l0 lN lE c0 l1 l0n lE2 hsl
    have hB0 : Hid (Bld k.v.heap.size k.v.heap.size nm (.slice none 0 0) (([] : List ByteArray).map kyV) (k.v.alloc (.cells #[.string nm, .slice none 0 0] 30))) := hid ⟨inferInstance, Nat.le_refl _, by simp [go_sem], by simp [go_sem], by simp [go_sem], by simp [go_sem], ⟨World.ownsRow_nil _ _ _ _, fun h => by cases h⟩⟩
    go_loopw [7, 8, 9, 10, 11, 12, 26] (fun _ _ _ _ _ _ i wr => ∃ q : Nat, q ≤ r.length ∧ i = .int .i64 (q : Int) ∧ (r.take q).all kyB = true ∧ ∃ v, ∃ j : Ex k.v, wr = j.v ∧ Bld k.v.heap.size k.v.heap.size nm v ((r.take q).map kyV) j.v) (fun _ _ _ _ _ _ i _ => r.length - (intOf i).toNat)
    case atStart => exact ⟨0, Nat.zero_le _, rfl, rfl, _, ex_and (fun W => Bld k.v.heap.size k.v.heap.size nm (.slice none 0 0) (([] : List ByteArray).map kyV) W) (by (refine Ok.toEx ?_; (repeat (first | (with_reducible exact Ok.rf _) | (with_reducible refine Ok.alloc ?_ _) | (with_reducible refine Ok.ex ?_ _) | (with_reducible refine Ok.drew ?_) | (with_reducible refine Ok.setCellI ?_ _ _ _) | (with_reducible refine Ok.exb ?_ _))))) hB0.out⟩
    case round =>
      obtain ⟨q, hq, rfl, hall, v, j0, rfl, hBd⟩ := hrel
      obtain ⟨ks, hks⟩ : ∃ ks, (r.take q).map kyV = ks := ⟨_, rfl⟩
      rw [hks] at hBd
      have HKS := hid hks
      have HALL := hid hall
      have hkl : ks.length ≤ 1048576 := by rw [← hks, List.length_map, List.length_take]; omega
      clear hks hall
      haveI hBi := hBd
      have x0 := hBd.c0
      have x1 := hBd.c1
      have x2 := hBd.f0
      have x3 := hBd.f1
      haveI hot := hBd.own
      haveI hlt1 := hBd.lt
      clear hBd
      obtain ⟨A1, d1, rfl, hO1, hF1⟩ := Ow.of_row (f := kC) (fun _ => rfl) hot.own
      by_cases hlt : q < r.length
      · clear hO1 hF1
        have cy := HR.out q r[q] (List.getElem?_eq_getElem hlt)
        have hys := ZR.out _ (List.getElem_mem hlt)
        have HQ : Hid (kyB r[q] = false → r.all kyB = false) := hid (all_not hlt)
        have HT1 : Hid (r.take (q + 1) = r.take q ++ [r[q]]) := hid (List.take_append_getElem hlt).symm
        have HM2 : Hid ((r.take (q + 1)).map kyV = ks ++ [kyV r[q]]) := hid (by rw [HT1.out, List.map_append, HKS.out]; rfl)
        have HA2 : Hid (kyB r[q] = true → (r.take (q + 1)).all kyB = true) := hid fun h => by rw [HT1.out, List.all_append, HALL.out]; simpa using h
        have q1 : (q : Int) < (r.length : Int) := by omega
        have q2 : (0 : Int) ≤ (q : Int) := by omega
        generalize r[q] = y at *
        obtain ⟨hk1, hk2⟩ := ky_cut y
        obtain ⟨hz1, hz2⟩ := cu_size y
        have HZ2 : Hid (∀ z ∈ [cuA y, cuZ y], z.size ≤ 1048576) := hid fun z hz => by
          rcases List.mem_cons.1 hz with rfl | hz
          · omega
          · obtain rfl := List.mem_singleton.1 hz; omega
        clear hz1 hz2
        cases hkb : kyB y
        · have HN := hid (HNO.out (.inl (HQ.out hkb)))
          have HNU : Hid (nuV [cuA y, cuZ y] = [] ∧ nuB [cuA y, cuZ y] = false) := hid (by
            have h3 : nuB [cuA y, cuZ y] = false := hk1.trans hkb
            exact ⟨by unfold nuV; rw [h3]; rfl, h3⟩)
          clear hk1 hk2 hkb
          go_wp2_with (first | (go_at_call 42; go_loud ((refine (cut_any y _ hys).mono ?_); rintro e w' ⟨bc, rfl, k2, rfl⟩)) | (go_at_call 38; go_loud ((refine (iNumsF_any (hl := rd_litS k2.v 9 _ [cuA y, cuZ y] (Nat.le_of_ble_eq_true rfl) rfl) (some ⟨k2.v.heap.size, 0, none⟩) 2 [cuA y, cuZ y] _ (Nat.le_of_ble_eq_true rfl) HZ2).mono ?_); rw [HNU.out.1, HNU.out.2]; rintro e w' ⟨A6, c6, rfl, k6, rfl, ho6, hf6⟩; haveI ho6' := ho6)))
          (refine bodyPost_ret (v := _) (by simp [results, Tryd.results12, go_sem]; rfl) rfl ?_; refine rkPost_no HN.out rfl ?_; (refine Ok.toEx ?_; (repeat (first | (with_reducible exact Ok.rf _) | (with_reducible refine Ok.alloc ?_ _) | (with_reducible refine Ok.ex ?_ _) | (with_reducible refine Ok.drew ?_) | (with_reducible refine Ok.setCellI ?_ _ _ _) | (with_reducible refine Ok.exb ?_ _)))))
        · obtain ⟨t, v, hkv⟩ : ∃ t v, kyV y = ⟨t, v⟩ := ⟨_, _, rfl⟩
          have HNU : Hid (nuV [cuA y, cuZ y] = [t, v] ∧ nuB [cuA y, cuZ y] = true) := hid ⟨by rw [hk2 hkb, hkv], hk1.trans hkb⟩
          rw [hkv] at HM2
          have HKB := hid hkb
          clear hk1 hk2 hkb hkv
          go_upto_region 12 with (first | (go_at_call 42; go_loud ((refine (cut_any y _ hys).mono ?_); rintro e w' ⟨bc, rfl, k2, rfl⟩)) | (go_at_call 38; go_loud ((refine (iNumsF_any (hl := rd_litS k2.v 9 _ [cuA y, cuZ y] (Nat.le_of_ble_eq_true rfl) rfl) (some ⟨k2.v.heap.size, 0, none⟩) 2 [cuA y, cuZ y] _ (Nat.le_of_ble_eq_true rfl) HZ2).mono ?_); rw [HNU.out.1, HNU.out.2]; rintro e w' ⟨A6, c6, rfl, k6, rfl, ho6, hf6⟩; haveI ho6' := ho6)))
          obtain ⟨g6, rfl, hw6⟩ := ho6.own (Nat.succ_pos _)
          obtain ⟨b8, o8, e8, hb8, hc8⟩ := (inferInstance : Rd 1 iC k6.v (some ⟨g6, 0, none⟩) [t, v]).at_ (Nat.succ_pos _)
          cases e8
          have y0 : k6.v.cell? ⟨g6, 0, none⟩ = some (.int .i64 t) := hc8 0 (by simp) 0 _ rfl
          have y1 : k6.v.cell? ⟨g6, 1, none⟩ = some (.int .i64 v) := hc8 1 (by simp) 0 _ rfl
          clear hc8
          have HNE : Hid (Value.ownBlock (.slice A1 ks.length d1) ≠ some g6) := hid fun e => by
            have h1 := (hot.own.lt g6 e).2
            have h2 := hf6.h g6 0 none rfl
            have h3 := k2.size
            have h4 : (k2.v.alloc (.cells ([cuA y, cuZ y].map Value.string).toArray 9)).heap.size = k2.v.heap.size + 1 := by simp
            simp only [World.size_alloc] at h2
            omega
          have e0 : (0 : Int) < (([t, v] : List Int).length : Int) := by simp
          refine wp_region_T (fun W => W.cell? ⟨k.v.heap.size, 1, none⟩ = some (.slice A1 ks.length d1) ∧ W.cell? ⟨g6, 0, none⟩ = some (.int .i64 t) ∧ W.cell? ⟨g6, 1, none⟩ = some (.int .i64 v)) 12 (by kernel_rfl) ?_ (fun hHeld => ?_)
          · refine ⟨?_, ?_, ?_⟩ <;> simp [go_sem, x1, y0, y1]
          (refine wpAnyT_takeL (i := 0) (v := ?v0) rfl (by kernel_rfl) (by kernel_rfl) (by kernel_rfl) (by kernel_rfl) (by kernel_rfl) (by kernel_rfl) (fun _ _ _ h => h) (Or.inl ⟨by rfl, ?hy0⟩) (by assumption) ?rest0; (case hy0 => (intro w hSw; (try dsimp only at hSw); go_simp; (try (with_reducible rfl)))); (try simp only [Act.put, List.setIfInBounds_toArray, List.set_cons_zero, List.set_cons_succ]))
          (refine wpAnyT_takeL (i := 1) (v := ?v1) rfl (by kernel_rfl) (by kernel_rfl) (by kernel_rfl) (by kernel_rfl) (by kernel_rfl) (by kernel_rfl) (fun _ _ _ h => h) (Or.inl ⟨by rfl, ?hy1⟩) (by assumption) ?rest1; (case hy1 => (intro w hSw; (try dsimp only at hSw); go_simp; (try (with_reducible rfl)))); (try simp only [Act.put, List.setIfInBounds_toArray, List.set_cons_zero, List.set_cons_succ]))
          (refine wpAnyT_takeL (i := 2) (v := ?v2) rfl (by kernel_rfl) (by kernel_rfl) (by kernel_rfl) (by kernel_rfl) (by kernel_rfl) (by kernel_rfl) (fun _ _ _ h => h) (Or.inl ⟨by rfl, ?hy2⟩) (by assumption) ?rest2; (case hy2 => (intro w hSw; (try dsimp only at hSw); go_simp; (try (with_reducible rfl)))); (try simp only [Act.put, List.setIfInBounds_toArray, List.set_cons_zero, List.set_cons_succ]))
          (refine wpAnyT_takeL (i := 3) (v := ?v3) rfl (by kernel_rfl) (by kernel_rfl) (by kernel_rfl) (by kernel_rfl) (by kernel_rfl) (by kernel_rfl) (fun _ _ _ h => h) (Or.inl ⟨by rfl, ?hy3⟩) (by assumption) ?rest3; (case hy3 => (intro w hSw; (try dsimp only at hSw); go_simp; (try (with_reducible rfl)))); (try simp only [Act.put, List.setIfInBounds_toArray, List.set_cons_zero, List.set_cons_succ]))
          (refine wpAnyT_takeL (i := 4) (v := ?v4) rfl (by kernel_rfl) (by kernel_rfl) (by kernel_rfl) (by kernel_rfl) (by kernel_rfl) (by kernel_rfl) (fun _ _ _ h => h) (Or.inl ⟨by rfl, ?hy4⟩) (by assumption) ?rest4; (case hy4 => (intro w hSw; (try dsimp only at hSw); go_simp; (try (with_reducible rfl)))); (try simp only [Act.put, List.setIfInBounds_toArray, List.set_cons_zero, List.set_cons_succ]))
          (refine wpAnyT_takeL (i := 5) (v := ?v5) rfl (by kernel_rfl) (by kernel_rfl) (by kernel_rfl) (by kernel_rfl) (by kernel_rfl) (by kernel_rfl) (fun _ _ _ h => h) (Or.inl ⟨by rfl, ?hy5⟩) (by assumption) ?rest5; (case hy5 => (intro w hSw; (try dsimp only at hSw); go_simp; (try (with_reducible rfl)))); (try simp only [Act.put, List.setIfInBounds_toArray, List.set_cons_zero, List.set_cons_succ]))
          (refine wpAnyT_takeL (i := 6) (v := ?v6) rfl (by kernel_rfl) (by kernel_rfl) (by kernel_rfl) (by kernel_rfl) (by kernel_rfl) (by kernel_rfl) (fun _ _ _ h => h) (Or.inl ⟨by rfl, ?hy6⟩) (by assumption) ?rest6; (case hy6 => (intro w hSw; (try dsimp only at hSw); go_simp; (try (with_reducible rfl)))); (try simp only [Act.put, List.setIfInBounds_toArray, List.set_cons_zero, List.set_cons_succ]))
          (refine wpAnyT_takeL (i := 7) (v := ?v7) rfl (by kernel_rfl) (by kernel_rfl) (by kernel_rfl) (by kernel_rfl) (by kernel_rfl) (by kernel_rfl) (fun _ _ _ h => h) (Or.inl ⟨by rfl, ?hy7⟩) (by assumption) ?rest7; (case hy7 => (intro w hSw; (try dsimp only at hSw); go_simp; (try (with_reducible rfl)))); (try simp only [Act.put, List.setIfInBounds_toArray, List.set_cons_zero, List.set_cons_succ]))
          (refine wpAnyT_takeL (i := 8) (v := ?v8) rfl (by kernel_rfl) (by kernel_rfl) (by kernel_rfl) (by kernel_rfl) (by kernel_rfl) (by kernel_rfl) (fun _ _ _ h => h) (Or.inl ⟨by rfl, ?hy8⟩) (by assumption) ?rest8; (case hy8 => (intro w hSw; (try dsimp only at hSw); go_simp; (try (with_reducible rfl)))); (try simp only [Act.put, List.setIfInBounds_toArray, List.set_cons_zero, List.set_cons_succ]))
          refine wpAnyT_oneL (i := 9) (by kernel_rfl) rfl (fun K hK => ?_)
          go_simp
          refine hK.out _ _ ?_ (fun hHeld => ?_)
          · refine ⟨?_, ?_, ?_⟩ <;> simp [go_sem, x1, y0, y1]
          clear hK K
          try simp only [Act.put, List.setIfInBounds_toArray, List.set_cons_zero, List.set_cons_succ]
          refine wpAnyT_oneL (i := 10) (by kernel_rfl) rfl (fun K hK => ?_)
          (refine step_appZ kC rfl (.tmp 47) (.tmp 55) 28 rfl k.v.heap.size ?_ 58 (.agg #[.int .i64 0, .int .i64 0]) 2 16 Tryd.underlying28 infoKey rfl (by omega) (fun _ => ⟨rfl, by simp [kC, Value.oneCell']⟩) (.slice A1 ks.length d1) ks (by simp [Act.eval, Act.put]) ?_ (⟨t, v⟩ : Ky) _ _ rfl (cellsB ?_) ?_ ?_ ?_; (· exact LeB.h); (· exact owT_h (T := k.v.heap.size)); (· simp); (· omega); (· omega); intro v' k' hA; obtain ⟨A2, d2, rfl, hO2, hF2⟩ := Ow.of_row (f := kC) (fun _ => rfl) hA.own; have hB2 := (fun h => Bld.app (T := k.v.heap.size) (nm := nm) (l := ks) h hA) inferInstance; have z1 : k'.v.cell? ⟨k.v.heap.size, 1, none⟩ = some (.slice A1 ks.length d1) := (World.cell?_of_block (a := ⟨k.v.heap.size, 1, none⟩) (hA.keep k.v.heap.size LtW.h hot.ne)).trans (by simp [go_sem, x1]); have z2 : k'.v.frozen? ⟨k.v.heap.size, 1, none⟩ = false := (fz_block (hA.keep k.v.heap.size LtW.h hot.ne)).trans (by simp [go_sem, x3]); have z0 : k'.v.cell? ⟨k.v.heap.size, 0, none⟩ = some (.string nm) := (World.cell?_of_block (a := ⟨k.v.heap.size, 0, none⟩) (hA.keep k.v.heap.size LtW.h hot.ne)).trans (by simp [go_sem, x0]); haveI zl : LtW k.v.heap.size k'.v := ⟨Nat.lt_of_lt_of_le (LtW.h (w := _)) k'.h.size⟩; have v0 : k'.v.cell? ⟨g6, 0, none⟩ = some (.int .i64 t) := (World.cell?_of_block (a := ⟨g6, 0, none⟩) (hA.keep g6 LtW.h HNE.out)).trans (by simp [go_sem, y0]); have v1 : k'.v.cell? ⟨g6, 1, none⟩ = some (.int .i64 v) := (World.cell?_of_block (a := ⟨g6, 1, none⟩) (hA.keep g6 LtW.h HNE.out)).trans (by simp [go_sem, y1]); clear hA hO2 hF2)
          refine hK.out _ _ ?_ (fun hHeld => ?_)
          · exact ⟨z1, v0, v1⟩
          clear hK K
          try simp only [Act.put, List.setIfInBounds_toArray, List.set_cons_zero, List.set_cons_succ]
          refine wpAnyT_oneL (i := 11) (by kernel_rfl) rfl (fun K hK => ?_)
          go_simp
          refine hK.out _ _ ?_ (fun hHeld => ?_)
          · exact ⟨z1, v0, v1⟩
          clear hK K
          try simp only [Act.put, List.setIfInBounds_toArray, List.set_cons_zero, List.set_cons_succ]
          refine wpAnyT_lastL (by kernel_rfl) rfl (by kernel_rfl) (fun K hK => ?_)
          go_simp
          refine hK.out _ _ ?_
          clear hK K
          try simp only [Act.put, List.setIfInBounds_toArray, List.set_cons_zero, List.set_cons_succ]
          go_wp2
          go_roundw
          case rel => exact ⟨q + 1, by omega, by go_num, HA2.out HKB.out, _, ex_and (fun W => Bld k.v.heap.size k.v.heap.size nm _ ((r.take (q + 1)).map kyV) W) (by (refine Ok.toEx ?_; (repeat (first | (with_reducible exact Ok.rf _) | (with_reducible refine Ok.alloc ?_ _) | (with_reducible refine Ok.ex ?_ _) | (with_reducible refine Ok.drew ?_) | (with_reducible refine Ok.setCellI ?_ _ _ _) | (with_reducible refine Ok.exb ?_ _))))) (by rw [HM2.out]; simp only [List.length_append, List.length_singleton] at hB2 ⊢; exact hB2)⟩
          case measure => simp [intOf]; omega
      · obtain rfl : q = r.length := by omega
        rw [List.take_length] at HKS HALL
        have q1 : ¬ (r.length : Int) < (r.length : Int) := by omega
        have hs1 : nm.size ≤ maxLen := by simp only [maxLen]; omega
        cases hv : vT nm ks
        · have HV := hid hv
          have HN := hid (HNO.out (.inr (by rw [HKS.out]; exact hv)))
          clear hv
          go_wp2_with ((go_at_call 43; go_loud ((with_reducible refine (iVT_any nm A1 d1 ks _ hs1 hkl).mono ?_); rw [HV.out]; rintro e w' ⟨rfl, k8, rfl⟩)))
          (refine bodyPost_ret (v := _) (by simp [results, Tryd.results12, go_sem]; rfl) rfl ?_; refine rkPost_no HN.out rfl ?_; (refine Ok.toEx ?_; (repeat (first | (with_reducible exact Ok.rf _) | (with_reducible refine Ok.alloc ?_ _) | (with_reducible refine Ok.ex ?_ _) | (with_reducible refine Ok.drew ?_) | (with_reducible refine Ok.setCellI ?_ _ _ _) | (with_reducible refine Ok.exb ?_ _)))))
        · have HV := hid hv
          have HTX : Hid (trXR nm ks = trX nm ks ks.length) := hid (by unfold trXR; rw [if_pos hv])
          by_cases ht : trX nm ks ks.length = s
          · have HN := hid (rk_yes (s := s) (nm := nm) (l := ks) ⟨hv, ht⟩)
            have hne : ((trX nm ks ks.length).toList == s.toList) = true := by rw [ht]; simp
            have hk1 : 0 < ks.length := (vT_of hv).2.1.1
            clear hv ht
            generalize trX nm ks ks.length = TX at *
            obtain ⟨g, rfl, hw9⟩ := hO1.own hk1
            have hg := hF1 _ _ _ rfl
            have hkw := (inferInstance : LtW w.heap.size k.v).h
            haveI : NeB w.heap.size g := ⟨by omega⟩
            clear hk1
            go_wp2_with (first | (go_at_call 43; go_loud ((with_reducible refine (iVT_any nm (some ⟨g, 0, none⟩) d1 ks _ hs1 hkl).mono ?_); rw [HV.out]; rintro e w' ⟨rfl, k8, rfl⟩)) | (go_at_call 31; go_loud ((with_reducible refine (itrx_any nm (some ⟨g, 0, none⟩) d1 ks _ hs1 hkl HTX.out).mono ?_); rintro e w' ⟨rfl, k9, rfl⟩)))
            refine bodyPost_ret (v := _) (by first | (simp [results, Tryd.results12, go_sem]; done) | (simp [results, Tryd.results12, go_sem]; rfl)) rfl ?_
            refine rkPost_ok HN.out rfl (by rfl) ?_ (by infer_instance) ⟨by omega⟩
            (refine Ok.toEx ?_; (repeat (first | (with_reducible exact Ok.rf _) | (with_reducible refine Ok.alloc ?_ _) | (with_reducible refine Ok.ex ?_ _) | (with_reducible refine Ok.drew ?_) | (with_reducible refine Ok.setCellI ?_ _ _ _) | (with_reducible refine Ok.exb ?_ _))))
          · have HN := hid (rk_no (s := s) fun n l hk => by
              obtain ⟨rfl, h2⟩ := HX.out n l hk
              rw [HKS.out] at h2
              subst h2
              exact ht hk.2)
            have hne : ((trX nm ks ks.length).toList == s.toList) = false := by
              rw [beq_eq_false_iff_ne, ByteArray.toList_eq, ByteArray.toList_eq]
              exact fun h => ht (ba_ext h)
            clear hv ht
            generalize trX nm ks ks.length = TX at *
            go_wp2_with (first | (go_at_call 43; go_loud ((with_reducible refine (iVT_any nm A1 d1 ks _ hs1 hkl).mono ?_); rw [HV.out]; rintro e w' ⟨rfl, k8, rfl⟩)) | (go_at_call 31; go_loud ((with_reducible refine (itrx_any nm A1 d1 ks _ hs1 hkl HTX.out).mono ?_); rintro e w' ⟨rfl, k9, rfl⟩)))
            (refine bodyPost_ret (v := _) (by simp [results, Tryd.results12, go_sem]; rfl) rfl ?_; refine rkPost_no HN.out rfl ?_; (refine Ok.toEx ?_; (repeat (first | (with_reducible exact Ok.rf _) | (with_reducible refine Ok.alloc ?_ _) | (with_reducible refine Ok.ex ?_ _) | (with_reducible refine Ok.drew ?_) | (with_reducible refine Ok.setCellI ?_ _ _ _) | (with_reducible refine Ok.exb ?_ _)))))
end
end Go.Proofs.YtdhflckombkimaaDoor
