/-
  ReadTrack: the reference. Conditions: those typed at each theorem.
-/
import Derived.Test.YtdhflckombkimaaDoorTrRp
import Derived.Test.YtdhflckombkimaaDoorTrBl
import Derived.Test.YtdhflckombkimaaDoorRdS
import Derived.Test.YtdhflckombkimaaDoorRdM
import Derived.Deep.Cut
import Derived.BigQuiet
namespace Go.Proofs.YtdhflckombkimaaDoor
open Go.RowKit
theorem ky_spS {y : ByteArray} {a c : ByteArray} (h : spS 58 y = [a, c]) : kyB y = (rdO a && rdO c) ∧ kyV y = ⟨rdV a, rdV c⟩ := by
  unfold spS at h
  obtain ⟨a', c', h1⟩ := len_two (r := splC 58 y.data.toList) (by have := congrArg List.length h; simpa using this)
  rw [h1] at h
  simp only [List.map_cons, List.map_nil, List.cons.injEq, and_true] at h
  obtain ⟨rfl, rfl⟩ := h
  exact ky_two h1
theorem ky_spN {y : ByteArray} (h : (spS 58 y).length ≠ 2) : kyB y = false := ky_nottwo (by unfold spS at h; simpa using h)
section
set_option maxHeartbeats 3200000
set_option maxRecDepth 20000
theorem sReadT_any (s : ByteArray) (w : World) (hs : s.size ≤ 1048576) :
    Calls Tryd.prog 41 #[.string s] w (RkPost s w) := by
  have HZ : Hid (∀ g ∈ spS 32 s, g.size ≤ 1048576) := hid fun g hg => Nat.le_trans (sp_size hg) hs
  have hle := sp_le s
  have hne : 0 < (spS 32 s).length := by unfold spS; rw [List.length_map]; exact List.length_pos_iff.2 (splC_ne 32 _)
  obtain ⟨nm, r, hLr⟩ : ∃ nm r, spS 32 s = nm :: r := by
    cases hx : spS 32 s with
    | nil => rw [hx] at hne; simp at hne
    | cons x r => exact ⟨x, r, rfl⟩
  have HNO : Hid ((r.all kyB = false ∨ vT nm (r.map kyV) = false) → rkN s = ⟨#[]⟩ ∧ rkL s = [] ∧ rkB s = false) := hid fun h => rk_no (isK_no (.inl hLr) h)
  have HYES : Hid (r.all kyB = true → vT nm (r.map kyV) = true → rkN s = nm ∧ rkL s = r.map kyV ∧ rkB s = true) := hid fun h1 h2 => rk_yes (isK_sp hLr h1 h2)
  have HLR := hid hLr
  have hnz : nm.size ≤ 1048576 := HZ.out nm (by rw [hLr]; simp)
  have ZR : Hid (∀ y ∈ r, y.size ≤ 1048576) := hid fun y hy => HZ.out y (by rw [hLr]; simp [hy])
  have HLN : Hid ((spS 32 s).length = r.length + 1) := hid (by rw [hLr]; simp)
  clear HZ hne hLr
  go_enter Tryd.func41, Tryd.ntmps41
  go_upto_region 2 with ((go_at_call 71; go_loud ((refine (sSplit_any s 32 _ hs).mono ?_); rintro e w' ⟨A, c, rfl, k, rfl, ho⟩; haveI ho := ho)))
  have HA := hid ((inferInstance : Rd 1 sC k.v A (spS 32 s)).at_)
  obtain ⟨L, hL⟩ : ∃ L, spS 32 s = L := ⟨_, rfl⟩
  rw [hL] at HLR hle HA ho HLN ⊢
  clear hL
  obtain ⟨b, o, rfl, hbw, hc⟩ := HA.out (by have := HLN.out; omega)
  have hat : ∀ (j : Nat) (y : ByteArray), L[j]? = some y → k.v.cell? ⟨b, o + j, none⟩ = some (.string y) := fun j y hj => by
    obtain ⟨hjl, rfl⟩ := List.getElem?_eq_some_iff.1 hj
    have := hc j hjl 0 _ rfl
    simpa using this
  have c0 := hat 0 nm (by rw [HLR.out]; rfl)
  rw [Nat.add_zero] at c0
  have HR : Hid (∀ (j : Nat) (y : ByteArray), r[j]? = some y → k.v.cell? ⟨b, o + (1 + j), none⟩ = some (.string y)) := hid fun j y hj => hat (1 + j) y (by rw [HLR.out, Nat.add_comm 1]; exact hj)
  have l0 : (0 : Int) < (L.length : Int) := by have := HLN.out; omega
  have lN : 0 < L.length := by have := HLN.out; omega
  have lE : L ≠ [] := List.length_pos_iff.1 lN
  have hrl : r.length ≤ 1048576 := by have := HLN.out; omega
  clear hat hc HA
  go_wp2_with (fail)
  clear l0 lN lE c0
  have hB0 : Hid (Bld k.v.heap.size k.v.heap.size nm (.slice none 0 0) (([] : List ByteArray).map kyV) (k.v.alloc (.cells #[.string nm, .slice none 0 0] 30))) := hid ⟨inferInstance, Nat.le_refl _, by simp [go_sem], by simp [go_sem], by simp [go_sem], by simp [go_sem], ⟨World.ownsRow_nil _ _ _ _, fun h => by cases h⟩⟩
  go_loopw [6, 7, 8, 9, 10, 11] (fun i _ _ _ _ _ wr => ∃ q : Nat, q ≤ r.length ∧ i = .int .i64 (1 + (q : Int)) ∧ (r.take q).all kyB = true ∧ ∃ v, ∃ j : Ex k.v, wr = j.v ∧ Bld k.v.heap.size k.v.heap.size nm v ((r.take q).map kyV) j.v) (fun i _ _ _ _ _ _ => r.length + 1 - (intOf i).toNat)
  case atStart => exact ⟨0, Nat.zero_le _, rfl, rfl, _, ex_and (fun W => Bld k.v.heap.size k.v.heap.size nm (.slice none 0 0) (([] : List ByteArray).map kyV) W) (by (refine Ok.toEx ?_; (repeat (first | (with_reducible exact Ok.rf _) | (with_reducible refine Ok.alloc ?_ _) | (with_reducible refine Ok.ex ?_ _) | (with_reducible refine Ok.drew ?_) | (with_reducible refine Ok.setCellI ?_ _ _ _) | (with_reducible refine Ok.exb ?_ _))))) hB0.out⟩
  case round =>
    obtain ⟨q, hq, rfl, hall, v, j0, rfl, hBd⟩ := hrel
    obtain ⟨ks, hks⟩ : ∃ ks, (r.take q).map kyV = ks := ⟨_, rfl⟩
    rw [hks] at hBd
    have HKS := hid hks
    have HALL := hid hall
    have hkl : ks.length ≤ 1048576 := by rw [← hks, List.length_map, List.length_take]; omega
    clear hks hall
    haveI hBi := hBd
    have x0 := hBd.c0
    have x1 := hBd.c1
    have x2 := hBd.f0
    have x3 := hBd.f1
    haveI hot := hBd.own
    haveI hlt1 := hBd.lt
    clear hBd
    obtain ⟨A1, d1, rfl, hO1, hF1⟩ := Ow.of_row (f := kC) (fun _ => rfl) hot.own
    by_cases hlt : q < r.length
    · clear hO1 hF1
      have cy := HR.out q r[q] (List.getElem?_eq_getElem hlt)
      have hys := ZR.out _ (List.getElem_mem hlt)
      have HQ : Hid (kyB r[q] = false → r.all kyB = false) := hid (all_not hlt)
      have HT1 : Hid (r.take (q + 1) = r.take q ++ [r[q]]) := hid (List.take_append_getElem hlt).symm
      have HM2 : Hid ((r.take (q + 1)).map kyV = ks ++ [kyV r[q]]) := hid (by rw [HT1.out, List.map_append, HKS.out]; rfl)
      have HA2 : Hid (kyB r[q] = true → (r.take (q + 1)).all kyB = true) := hid fun h => by rw [HT1.out, List.all_append, HALL.out]; simpa using h
      have q1 : (1 : Int) + (q : Int) < (L.length : Int) := by have := HLN.out; omega
      have q2 : (0 : Int) ≤ 1 + (q : Int) := by omega
      have q3 : (1 + (q : Int)).toNat = 1 + q := by omega
      generalize r[q] = y at *
      by_cases h2 : (spS 58 y).length = 2
      · obtain ⟨a, z, haz⟩ := len_two h2
        obtain ⟨hkb, hkv⟩ := ky_spS haz
        have has : a.size ≤ 1048576 := Nat.le_trans (sp_sizeC (c := 58) (s := y) (by rw [haz]; simp)) hys
        have hzs : z.size ≤ 1048576 := Nat.le_trans (sp_sizeC (c := 58) (s := y) (by rw [haz]; simp)) hys
        have HAZ := hid haz
        obtain ⟨ba, hba⟩ : ∃ b, rdO a = b := ⟨_, rfl⟩
        obtain ⟨bz, hbz⟩ : ∃ b, rdO z = b := ⟨_, rfl⟩
        rw [hba, hbz] at hkb
        have HBA := hid hba
        have HBZ := hid hbz
        have HKB := hid hkb
        have HKV := hid hkv
        clear h2 haz hkb hkv hba hbz
        cases ba
        · have HN := hid (HNO.out (.inl (HQ.out (by rw [HKB.out]; rfl))))
          go_wp2_with (first | (go_at_call 71; go_loud ((refine (sSplit_any y 58 _ hys).mono ?_); rw [HAZ.out]; rintro e w' ⟨A3, c3, rfl, k3, rfl, ho3⟩; obtain ⟨g3, rfl, hw3⟩ := ho3.own (Nat.succ_pos _); obtain ⟨b8, o8, e8, hb8, hc8⟩ := (inferInstance : Rd 1 sC k3.v (some ⟨g3, 0, none⟩) [a, z]).at_ (Nat.succ_pos _); cases e8; have y0 : k3.v.cell? ⟨g3, 0, none⟩ = some (.string a) := hc8 0 (by simp) 0 _ rfl; have y1 : k3.v.cell? ⟨g3, 1, none⟩ = some (.string z) := hc8 1 (by simp) 0 _ rfl; clear hc8)) | (go_at_call 72; go_loud ((with_reducible refine (sNum_any a _ has).mono ?_); rw [HBA.out]; rintro e w' ⟨rfl, rfl⟩)) | (go_at_call 72; go_loud ((with_reducible refine (sNum_any z _ hzs).mono ?_); rw [HBZ.out]; rintro e w' ⟨rfl, rfl⟩)))
          (refine bodyPost_ret (v := _) (by simp [results, Tryd.results41, go_sem]; rfl) rfl ?_; refine rkPost_no HN.out rfl ?_; (refine Ok.toEx ?_; (repeat (first | (with_reducible exact Ok.rf _) | (with_reducible refine Ok.alloc ?_ _) | (with_reducible refine Ok.ex ?_ _) | (with_reducible refine Ok.drew ?_) | (with_reducible refine Ok.setCellI ?_ _ _ _) | (with_reducible refine Ok.exb ?_ _)))))
        · cases bz
          · have HN := hid (HNO.out (.inl (HQ.out (by rw [HKB.out]; rfl))))
            go_wp2_with (first | (go_at_call 71; go_loud ((refine (sSplit_any y 58 _ hys).mono ?_); rw [HAZ.out]; rintro e w' ⟨A3, c3, rfl, k3, rfl, ho3⟩; obtain ⟨g3, rfl, hw3⟩ := ho3.own (Nat.succ_pos _); obtain ⟨b8, o8, e8, hb8, hc8⟩ := (inferInstance : Rd 1 sC k3.v (some ⟨g3, 0, none⟩) [a, z]).at_ (Nat.succ_pos _); cases e8; have y0 : k3.v.cell? ⟨g3, 0, none⟩ = some (.string a) := hc8 0 (by simp) 0 _ rfl; have y1 : k3.v.cell? ⟨g3, 1, none⟩ = some (.string z) := hc8 1 (by simp) 0 _ rfl; clear hc8)) | (go_at_call 72; go_loud ((with_reducible refine (sNum_any a _ has).mono ?_); rw [HBA.out]; rintro e w' ⟨rfl, rfl⟩)) | (go_at_call 72; go_loud ((with_reducible refine (sNum_any z _ hzs).mono ?_); rw [HBZ.out]; rintro e w' ⟨rfl, rfl⟩)))
            (refine bodyPost_ret (v := _) (by simp [results, Tryd.results41, go_sem]; rfl) rfl ?_; refine rkPost_no HN.out rfl ?_; (refine Ok.toEx ?_; (repeat (first | (with_reducible exact Ok.rf _) | (with_reducible refine Ok.alloc ?_ _) | (with_reducible refine Ok.ex ?_ _) | (with_reducible refine Ok.drew ?_) | (with_reducible refine Ok.setCellI ?_ _ _ _) | (with_reducible refine Ok.exb ?_ _)))))
          · go_wp2_with (first | (go_at_call 71; go_loud ((refine (sSplit_any y 58 _ hys).mono ?_); rw [HAZ.out]; rintro e w' ⟨A3, c3, rfl, k3, rfl, ho3⟩; obtain ⟨g3, rfl, hw3⟩ := ho3.own (Nat.succ_pos _); obtain ⟨b8, o8, e8, hb8, hc8⟩ := (inferInstance : Rd 1 sC k3.v (some ⟨g3, 0, none⟩) [a, z]).at_ (Nat.succ_pos _); cases e8; have y0 : k3.v.cell? ⟨g3, 0, none⟩ = some (.string a) := hc8 0 (by simp) 0 _ rfl; have y1 : k3.v.cell? ⟨g3, 1, none⟩ = some (.string z) := hc8 1 (by simp) 0 _ rfl; clear hc8)) | (go_at_call 72; go_loud ((with_reducible refine (sNum_any a _ has).mono ?_); rw [HBA.out]; rintro e w' ⟨rfl, rfl⟩)) | (go_at_call 72; go_loud ((with_reducible refine (sNum_any z _ hzs).mono ?_); rw [HBZ.out]; rintro e w' ⟨rfl, rfl⟩)) | (at_builtin; go_loud (refine wpList_appZ kC _ rfl _ _ _ rfl k.v.heap.size ?_ _ _ _ _ Tryd.underlying28 infoKey rfl (by omega) (fun _ => ⟨rfl, by simp [kC, Value.oneCell']⟩) (.slice A1 ks.length d1) ks rfl ?_ (⟨rdV a, rdV z⟩ : Ky) _ _ rfl (cellsB ?_) ?_ ?_ ?_; (· exact LeB.h); (· exact owT_h (T := k.v.heap.size)); (· simp); (· omega); (· omega); intro v' k' hA; obtain ⟨A2, d2, rfl, hO2, hF2⟩ := Ow.of_row (f := kC) (fun _ => rfl) hA.own; have hB2 := (fun h => Bld.app (T := k.v.heap.size) (nm := nm) (l := ks) h hA) inferInstance; have z1 : k'.v.cell? ⟨k.v.heap.size, 1, none⟩ = some (.slice A1 ks.length d1) := (World.cell?_of_block (a := ⟨k.v.heap.size, 1, none⟩) (hA.keep k.v.heap.size LtW.h hot.ne)).trans (by simp [go_sem, x1]); have z2 : k'.v.frozen? ⟨k.v.heap.size, 1, none⟩ = false := (fz_block (hA.keep k.v.heap.size LtW.h hot.ne)).trans (by simp [go_sem, x3]); have z0 : k'.v.cell? ⟨k.v.heap.size, 0, none⟩ = some (.string nm) := (World.cell?_of_block (a := ⟨k.v.heap.size, 0, none⟩) (hA.keep k.v.heap.size LtW.h hot.ne)).trans (by simp [go_sem, x0]); haveI zl : LtW k.v.heap.size k'.v := ⟨Nat.lt_of_lt_of_le (LtW.h (w := _)) k'.h.size⟩; clear hA hO2 hF2)))
            go_roundw
            case rel => exact ⟨q + 1, by omega, by go_num, HA2.out (by rw [HKB.out]; rfl), _, ex_and (fun W => Bld k.v.heap.size k.v.heap.size nm _ ((r.take (q + 1)).map kyV) W) (by (refine Ok.toEx ?_; (repeat (first | (with_reducible exact Ok.rf _) | (with_reducible refine Ok.alloc ?_ _) | (with_reducible refine Ok.ex ?_ _) | (with_reducible refine Ok.drew ?_) | (with_reducible refine Ok.setCellI ?_ _ _ _) | (with_reducible refine Ok.exb ?_ _))))) (by rw [HM2.out, HKV.out]; simp only [List.length_append, List.length_singleton] at hB2 ⊢; exact hB2)⟩
            case measure => simp [intOf]; omega
      · have HN := hid (HNO.out (.inl (HQ.out (ky_spN h2))))
        have h2i : ¬ ((spS 58 y).length : Int) = 2 := by omega
        clear h2
        go_wp2_with ((go_at_call 71; go_loud ((refine (sSplit_any y 58 _ hys).mono ?_); rintro e w' ⟨A3, c3, rfl, k3, rfl, ho3⟩; haveI ho3 := ho3)))
        (refine bodyPost_ret (v := _) (by simp [results, Tryd.results41, go_sem]; rfl) rfl ?_; refine rkPost_no HN.out rfl ?_; (refine Ok.toEx ?_; (repeat (first | (with_reducible exact Ok.rf _) | (with_reducible refine Ok.alloc ?_ _) | (with_reducible refine Ok.ex ?_ _) | (with_reducible refine Ok.drew ?_) | (with_reducible refine Ok.setCellI ?_ _ _ _) | (with_reducible refine Ok.exb ?_ _)))))
    · obtain rfl : q = r.length := by omega
      rw [List.take_length] at HKS HALL
      have q1 : ¬ (1 : Int) + (r.length : Int) < (L.length : Int) := by have := HLN.out; omega
      have hs1 : nm.size ≤ maxLen := by simp only [maxLen]; omega
      cases hv : vT nm ks
      · have HV := hid hv
        have HN := hid (HNO.out (.inr (by rw [HKS.out]; exact hv)))
        clear hv
        go_wp2_with ((go_at_call 70; go_loud ((refine (one_any nm A1 d1 ks _ _ hs1 hkl ?_ ?_).mono ?_); (· simp [go_sem, x0]); (· simp [go_sem, x1]); rw [HV.out]; rintro e w' ⟨rfl, k8, rfl⟩)))
        (refine bodyPost_ret (v := _) (by simp [results, Tryd.results41, go_sem]; rfl) rfl ?_; refine rkPost_no HN.out rfl ?_; (refine Ok.toEx ?_; (repeat (first | (with_reducible exact Ok.rf _) | (with_reducible refine Ok.alloc ?_ _) | (with_reducible refine Ok.ex ?_ _) | (with_reducible refine Ok.drew ?_) | (with_reducible refine Ok.setCellI ?_ _ _ _) | (with_reducible refine Ok.exb ?_ _)))))
      · have HV := hid hv
        have HN := hid (HYES.out HALL.out (by rw [HKS.out]; exact hv))
        rw [HKS.out] at HN
        have hk1 : 0 < ks.length := (vT_of hv).2.1.1
        clear hv
        obtain ⟨g, rfl, hw9⟩ := hO1.own hk1
        have hg := hF1 _ _ _ rfl
        have hkw := (inferInstance : LtW w.heap.size k.v).h
        haveI : NeB w.heap.size g := ⟨by omega⟩
        clear hk1
        go_wp2_with ((go_at_call 70; go_loud ((refine (one_any nm (some ⟨g, 0, none⟩) d1 ks _ _ hs1 hkl ?_ ?_).mono ?_); (· simp [go_sem, x0]); (· simp [go_sem, x1]); rw [HV.out]; rintro e w' ⟨rfl, k8, rfl⟩)))
        refine bodyPost_ret (v := _) (by first | (simp [results, Tryd.results41, go_sem]; done) | (simp [results, Tryd.results41, go_sem]; rfl)) rfl ?_
        refine rkPost_ok HN.out rfl (by rfl) ?_ (by infer_instance) ⟨by omega⟩
        (refine Ok.toEx ?_; (repeat (first | (with_reducible exact Ok.rf _) | (with_reducible refine Ok.alloc ?_ _) | (with_reducible refine Ok.ex ?_ _) | (with_reducible refine Ok.drew ?_) | (with_reducible refine Ok.setCellI ?_ _ _ _) | (with_reducible refine Ok.exb ?_ _))))
end
end Go.Proofs.YtdhflckombkimaaDoor
