/-
  Is a lent chain as it was?
-/
import Derived.Test.YtkngmnfgdlnddaaGI
set_option linter.unusedSimpArgs false
set_option linter.unusedVariables false
namespace Go.Proofs.Ytkngmnfgdlnddaa
open Go.RowKit Go.Lib Hw Go.Maps
set_option linter.unusedSimpArgs false
set_option linter.unusedVariables false

theorem marksC_get (k i : Nat) (h : i < (marksC k).length) : (marksC k)[i] = (800000 + i, .slice none 0 0) := by simp [marksC]
theorem LentC.below {w w' : World} {N : Nat} {v : Value} {cs : List (Nat × List Nat)} (h : LentC w N v cs) (hb : Below w.heap.size w w') : LentC w' N v cs := by
  obtain ⟨g, cap, bs, hv, ho, hl⟩ := h
  exact ⟨g, cap, bs, hv, ho.below hb (fun k hk => (ho.lt k hk).2), hl.below hb⟩
/-- a batch of a lent chain -/
theorem LentC.at {w : World} {N g n cap : Nat} {bs : List (Nat × Value)} {cs : List (Nat × List Nat)} (ho : OwnC w N (.slice (some ⟨g, 0, none⟩) n cap) (bs ++ marksC 70)) (hl : LentB w N bs cs) {i : Nat} (hi : i < cs.length) :
    ∃ ad c, w.cell? ⟨g, i * 2, none⟩ = some (uN cs[i].1) ∧ w.cell? ⟨g, i * 2 + 1, none⟩ = some (.slice ad cs[i].2.length c) ∧ LentN w N (.slice ad cs[i].2.length c) cs[i].2 := by
  obtain ⟨h0, h1⟩ := hl
  have hi2 : i < bs.length := by omega
  obtain ⟨c1, c2⟩ := ho.cell i (by rw [List.length_append]; omega)
  rw [List.getElem_append_left hi2] at c1 c2
  obtain ⟨e1, e2⟩ := h1 i hi
  have e3 := e2
  obtain ⟨h4, g5, o5, cap5, hv, _⟩ := e3
  rw [hv] at c2 e2
  rw [e1] at c1
  exact ⟨_, _, c1, c2, e2⟩
theorem LentC.row {w : World} {N : Nat} {v : Value} {cs : List (Nat × List Nat)} (h : LentC w N v cs) (hp : ∀ c ∈ cs, c.1 < 4294967296) : CRow w v cs := by
  obtain ⟨g, cap, bs, rfl, ho, hl⟩ := h
  obtain ⟨ad2, cap2, hv, h1, h2, _⟩ := ho.shape
  obtain ⟨e1, e2, e3⟩ := Value.slice.inj hv
  rw [← e3] at h1 h2
  have hlt := (ho.lt g rfl).2
  have hlen : bs.length = cs.length := hl.1
  rw [List.length_append] at h1
  refine ⟨hp, _, _, rfl, by omega, h2, fun hp => ⟨g, 0, rfl, hlt, fun i hi => ?_⟩⟩
  obtain ⟨ad, c, c1, c2, hn⟩ := LentC.at ho hl hi
  refine ⟨_, fun j u hu => ?_, hn.row⟩
  rw [Nat.zero_add]
  match j, hu with
  | 0, hu => exact c1.trans hu
  | 1, hu => exact c2.trans hu
set_option maxRecDepth 5000 in
set_option maxHeartbeats 8000000 in
theorem keptChain_any (v u : Value) (cs : List (Nat × List Nat)) (N : Nat) (w : World) (hv : Hid (LentC w N v cs)) (hu : Hid (CRow w u cs)) (hz : Hid (cs.length * 32 ≤ 140737488351232)) (hz2 : Hid (∀ c ∈ cs, c.2.length * 4 ≤ 140737488351232)) :
    Calls Try.prog 41 #[v, u] w (SamePost true w) := by
  obtain ⟨g, cap, bs, hv1, ho, hlb⟩ := hv.out
  subst hv1
  obtain ⟨uad, uc, huv, hx1⟩ := hu.out.form
  subst huv
  obtain ⟨ad3, cp3, hv3, hq1, hq2, hq3⟩ := ho.shape
  have hcap : cs.length + 70 ≤ cap := by
    have h1 := Value.slice.inj hv3
    have h2 := hlb.1
    rw [List.length_append, marksC_len] at hq1
    omega
  clear hv3 hq1 hq2 hq3 hx1
  have HO := Lib.hid ho
  have HLB := Lib.hid hlb
  have HBL := Lib.hid hlb.1
  clear ho hlb
  obtain ⟨n, hn⟩ : ∃ k, cs.length = k := ⟨_, rfl⟩
  have HL := Lib.hid hn
  rw [hn] at hu hcap HO ⊢
  clear hn hv
  obtain ⟨n7, hn7⟩ : ∃ k, n + 70 = k := ⟨_, rfl⟩
  have H7 := Lib.hid hn7
  have hle : n7 ≤ cap := by omega
  have en : ((n : Int) != (n : Int)) = false := by simp
  go_enter Try.func41, Try.ntmps41
  go_upto_region 4 with fail
  clear en
  go_loopw [5] (fun iv wr => ∃ (k : Nat), k ≤ n ∧ Hid (Below w.heap.size w wr) ∧ iv = .int .i64 (k : Int)) (fun iv _ => n - (intOf iv).toNat)
  case atStart => exact ⟨0, Nat.zero_le _, Below.refl _ _, rfl⟩
  case round =>
    obtain ⟨k, hk, HB, rfl⟩ := hrel
    by_cases hlt : k < n
    case pos =>
      have ik : (k : Int) < (n : Int) := by omega
      have hkx : k < cs.length := by have := HL.out; omega
      have hOr := HO.out.below HB.out (fun i hi => (HO.out.lt i hi).2)
      have hLr := HLB.out.below HB.out
      obtain ⟨a1, c1, q1, q2, q3⟩ := LentC.at hOr hLr hkx
      have hgl : g < wr.heap.size := (hOr.lt g rfl).2
      obtain ⟨b2, o2, a2, c2, e2, r2, u2, pp2⟩ := (hu.out.below HB.out).at hkx
      subst e2
      have f1 := r2 0 _ rfl
      have f2 := r2 1 _ rfl
      have hb2 : b2 < wr.heap.size := World.block_lt_of_cell? wr ⟨b2, o2 + k * 2 + 0, none⟩ f1
      have hzc := hz2.out _ (List.getElem_mem hkx)
      obtain ⟨⟨pg, ys⟩, hx0⟩ : ∃ x, cs[k] = x := ⟨_, rfl⟩
      rw [hx0] at q1 q2 q3 f1 f2 u2 hzc
      simp only at q1 q2 q3 f1 f2 u2 hzc
      unfold uN at q1 f1
      rw [Nat.add_zero] at f1
      obtain ⟨ny, hny⟩ : ∃ n, ys.length = n := ⟨_, rfl⟩
      have HKN : Hid (Calls Try.prog 24 #[.slice a1 ys.length c1, .slice a2 ys.length c2] wr.drew (SamePost true wr.drew)) := by
        have h := keptNumbers_any (.slice a1 ys.length c1) (.slice a2 ys.length c2) ys ys N wr.drew (q3.below ((Below.refl _ _).drew)) u2.drew hzc
        rw [show decide (ys = ys) = true from decide_eq_true rfl] at h
        exact h
      rw [hny] at q2 f2 HKN
      obtain ⟨k9, hk9⟩ : ∃ k9 : Nat, k9 = k + 1 := ⟨_, rfl⟩
      have ew1 : (k : Int) + 1 = (k9 : Int) := by omega
      have ew2 : IntKind.i64.wrap (k9 : Int) = (k9 : Int) := IntWalk.i64_in _ (by have := hz.out; have := HL.out; omega)
      have hk3 : k9 ≤ n := by omega
      have hk4 : n - k9 < n - k := by omega
      clear hk9 hx0 r2 u2 q3 hny hkx hlt hOr hLr pp2 hzc
      go_upto_region 6 with fail
      refine wp_region_held_drew (S := fun W => W.cell? ⟨g, k * 2, none⟩ = some (.int .u32 (pg : Int)) ∧ W.cell? ⟨g, k * 2 + 1, none⟩ = some (.slice a1 ny c1) ∧ W.cell? ⟨b2, o2 + k * 2, none⟩ = some (.int .u32 (pg : Int)) ∧ W.cell? ⟨b2, o2 + k * 2 + 1, none⟩ = some (.slice a2 ny c2)) (by kernel_rfl) ⟨q1, q2, f1, f2⟩ (fun hHeld => ?_)
      refine' wpAnyH_take (i := 0) (oi := ⟨some 19, .move (.tmp 0), 44, "memory.go:48", #[], none⟩) rfl (by kernel_rfl) (by kernel_rfl) (by kernel_rfl) (fun _ _ _ h => h) (Or.inl ⟨by rfl, _⟩) (by assumption) _
      rotate_left
      · (intro wS hSw; (try dsimp only at hSw); go_simp; try with_reducible rfl)
      try simp only [Act.put, nA, nB, nC]
      refine' wpAnyH_take (i := 1) (oi := ⟨some 20, .move (.tmp 5), 3, "memory.go:48", #[], none⟩) rfl (by kernel_rfl) (by kernel_rfl) (by kernel_rfl) (fun _ _ _ h => h) (Or.inl ⟨by rfl, _⟩) (by assumption) _
      rotate_left
      · (intro wS hSw; (try dsimp only at hSw); go_simp; try with_reducible rfl)
      try simp only [Act.put, nA, nB, nC]
      refine' wpAnyH_take (i := 2) (oi := ⟨some 21, .indexAddr 44 (.tmp 19) (.tmp 20), 0, "memory.go:48", #[⟨0, .data⟩, ⟨1, .data⟩], none⟩) rfl (by kernel_rfl) (by kernel_rfl) (by kernel_rfl) (fun _ _ _ h => h) (Or.inl ⟨by rfl, _⟩) (by assumption) _
      rotate_left
      · (intro wS hSw; (try dsimp only at hSw); go_simp; try with_reducible rfl)
      try simp only [Act.put, nA, nB, nC]
      refine' wpAnyH_take (i := 3) (oi := ⟨some 22, .fieldAddr 64 (.tmp 21) 0, 0, "memory.go:48", #[⟨2, .data⟩], none⟩) rfl (by kernel_rfl) (by kernel_rfl) (by kernel_rfl) (fun _ _ _ h => h) (Or.inl ⟨by rfl, _⟩) (by assumption) _
      rotate_left
      · (intro wS hSw; (try dsimp only at hSw); go_simp; try with_reducible rfl)
      try simp only [Act.put, nA, nB, nC]
      refine' wpAnyH_take (i := 4) (oi := ⟨some 23, .load 27 (.tmp 22), 27, "memory.go:48", #[⟨3, .data⟩], none⟩) rfl (by kernel_rfl) (by kernel_rfl) (by kernel_rfl) (fun _ _ _ h => h) (Or.inl ⟨by rfl, _⟩) (by assumption) _
      rotate_left
      · (intro wS hSw; (try dsimp only at hSw); go_simp; try with_reducible rfl)
      try simp only [Act.put, nA, nB, nC]
      refine' wpAnyH_take (i := 5) (oi := ⟨some 24, .move (.tmp 1), 44, "memory.go:48", #[], none⟩) rfl (by kernel_rfl) (by kernel_rfl) (by kernel_rfl) (fun _ _ _ h => h) (Or.inl ⟨by rfl, _⟩) (by assumption) _
      rotate_left
      · (intro wS hSw; (try dsimp only at hSw); go_simp; try with_reducible rfl)
      try simp only [Act.put, nA, nB, nC]
      refine' wpAnyH_take (i := 6) (oi := ⟨some 25, .move (.tmp 5), 3, "memory.go:48", #[], none⟩) rfl (by kernel_rfl) (by kernel_rfl) (by kernel_rfl) (fun _ _ _ h => h) (Or.inl ⟨by rfl, _⟩) (by assumption) _
      rotate_left
      · (intro wS hSw; (try dsimp only at hSw); go_simp; try with_reducible rfl)
      try simp only [Act.put, nA, nB, nC]
      refine' wpAnyH_take (i := 7) (oi := ⟨some 26, .indexAddr 44 (.tmp 24) (.tmp 25), 0, "memory.go:48", #[⟨5, .data⟩, ⟨6, .data⟩], none⟩) rfl (by kernel_rfl) (by kernel_rfl) (by kernel_rfl) (fun _ _ _ h => h) (Or.inl ⟨by rfl, _⟩) (by assumption) _
      rotate_left
      · (intro wS hSw; (try dsimp only at hSw); go_simp; try with_reducible rfl)
      try simp only [Act.put, nA, nB, nC]
      refine' wpAnyH_take (i := 8) (oi := ⟨some 27, .fieldAddr 64 (.tmp 26) 0, 0, "memory.go:48", #[⟨7, .data⟩], none⟩) rfl (by kernel_rfl) (by kernel_rfl) (by kernel_rfl) (fun _ _ _ h => h) (Or.inl ⟨by rfl, _⟩) (by assumption) _
      rotate_left
      · (intro wS hSw; (try dsimp only at hSw); go_simp; try with_reducible rfl)
      try simp only [Act.put, nA, nB, nC]
      refine' wpAnyH_take (i := 9) (oi := ⟨some 28, .load 27 (.tmp 27), 27, "memory.go:48", #[⟨8, .data⟩], none⟩) rfl (by kernel_rfl) (by kernel_rfl) (by kernel_rfl) (fun _ _ _ h => h) (Or.inl ⟨by rfl, _⟩) (by assumption) _
      rotate_left
      · (intro wS hSw; (try dsimp only at hSw); go_simp; try with_reducible rfl)
      try simp only [Act.put, nA, nB, nC]
      refine' wpAnyH_take (i := 10) (oi := ⟨some 29, .binOp .neq 27 (.tmp 23) (.tmp 28) 27, 4, "memory.go:48", #[⟨4, .data⟩, ⟨9, .data⟩], none⟩) rfl (by kernel_rfl) (by kernel_rfl) (by kernel_rfl) (fun _ _ _ h => h) (Or.inl ⟨by rfl, _⟩) (by assumption) _
      rotate_left
      · (intro wS hSw; (try dsimp only at hSw); go_simp; try with_reducible rfl)
      try simp only [Act.put, nA, nB, nC]
      refine' wpAnyH_take (i := 11) (oi := ⟨some 30, .move (.tmp 29), 4, "memory.go:48", #[⟨10, .data⟩], none⟩) rfl (by kernel_rfl) (by kernel_rfl) (by kernel_rfl) (fun _ _ _ h => h) (Or.inl ⟨by rfl, _⟩) (by assumption) _
      rotate_left
      · (intro wS hSw; (try dsimp only at hSw); go_simp; try with_reducible rfl)
      try simp only [Act.put, nA, nB, nC]
      refine' wpAnyH_take (i := 12) (oi := ⟨some 31, .move (.tmp 0), 44, "memory.go:48", #[⟨11, .guard⟩], some (11, false)⟩) rfl (by kernel_rfl) (by kernel_rfl) (by kernel_rfl) (fun _ _ _ h => h) (Or.inl ⟨by rfl, _⟩) (by assumption) _
      rotate_left
      · (intro wS hSw; (try dsimp only at hSw); go_simp; try with_reducible rfl)
      try simp only [Act.put, nA, nB, nC]
      refine' wpAnyH_take (i := 13) (oi := ⟨some 32, .move (.tmp 5), 3, "memory.go:48", #[⟨11, .guard⟩], some (11, false)⟩) rfl (by kernel_rfl) (by kernel_rfl) (by kernel_rfl) (fun _ _ _ h => h) (Or.inl ⟨by rfl, _⟩) (by assumption) _
      rotate_left
      · (intro wS hSw; (try dsimp only at hSw); go_simp; try with_reducible rfl)
      try simp only [Act.put, nA, nB, nC]
      refine' wpAnyH_take (i := 14) (oi := ⟨some 33, .indexAddr 44 (.tmp 31) (.tmp 32), 0, "memory.go:48", #[⟨12, .data⟩, ⟨13, .data⟩, ⟨11, .guard⟩], some (11, false)⟩) rfl (by kernel_rfl) (by kernel_rfl) (by kernel_rfl) (fun _ _ _ h => h) (Or.inl ⟨by rfl, _⟩) (by assumption) _
      rotate_left
      · (intro wS hSw; (try dsimp only at hSw); go_simp; try with_reducible rfl)
      try simp only [Act.put, nA, nB, nC]
      refine' wpAnyH_take (i := 15) (oi := ⟨some 34, .fieldAddr 64 (.tmp 33) 1, 0, "memory.go:48", #[⟨14, .data⟩, ⟨11, .guard⟩], some (11, false)⟩) rfl (by kernel_rfl) (by kernel_rfl) (by kernel_rfl) (fun _ _ _ h => h) (Or.inl ⟨by rfl, _⟩) (by assumption) _
      rotate_left
      · (intro wS hSw; (try dsimp only at hSw); go_simp; try with_reducible rfl)
      try simp only [Act.put, nA, nB, nC]
      refine' wpAnyH_take (i := 16) (oi := ⟨some 35, .load 28 (.tmp 34), 28, "memory.go:48", #[⟨15, .data⟩, ⟨11, .guard⟩], some (11, false)⟩) rfl (by kernel_rfl) (by kernel_rfl) (by kernel_rfl) (fun _ _ _ h => h) (Or.inl ⟨by rfl, _⟩) (by assumption) _
      rotate_left
      · (intro wS hSw; (try dsimp only at hSw); go_simp; try with_reducible rfl)
      try simp only [Act.put, nA, nB, nC]
      refine' wpAnyH_take (i := 17) (oi := ⟨some 36, .move (.tmp 1), 44, "memory.go:48", #[⟨11, .guard⟩], some (11, false)⟩) rfl (by kernel_rfl) (by kernel_rfl) (by kernel_rfl) (fun _ _ _ h => h) (Or.inl ⟨by rfl, _⟩) (by assumption) _
      rotate_left
      · (intro wS hSw; (try dsimp only at hSw); go_simp; try with_reducible rfl)
      try simp only [Act.put, nA, nB, nC]
      refine' wpAnyH_take (i := 18) (oi := ⟨some 37, .move (.tmp 5), 3, "memory.go:48", #[⟨11, .guard⟩], some (11, false)⟩) rfl (by kernel_rfl) (by kernel_rfl) (by kernel_rfl) (fun _ _ _ h => h) (Or.inl ⟨by rfl, _⟩) (by assumption) _
      rotate_left
      · (intro wS hSw; (try dsimp only at hSw); go_simp; try with_reducible rfl)
      try simp only [Act.put, nA, nB, nC]
      refine' wpAnyH_take (i := 19) (oi := ⟨some 38, .indexAddr 44 (.tmp 36) (.tmp 37), 0, "memory.go:48", #[⟨17, .data⟩, ⟨18, .data⟩, ⟨11, .guard⟩], some (11, false)⟩) rfl (by kernel_rfl) (by kernel_rfl) (by kernel_rfl) (fun _ _ _ h => h) (Or.inl ⟨by rfl, _⟩) (by assumption) _
      rotate_left
      · (intro wS hSw; (try dsimp only at hSw); go_simp; try with_reducible rfl)
      try simp only [Act.put, nA, nB, nC]
      refine' wpAnyH_take (i := 20) (oi := ⟨some 39, .fieldAddr 64 (.tmp 38) 1, 0, "memory.go:48", #[⟨19, .data⟩, ⟨11, .guard⟩], some (11, false)⟩) rfl (by kernel_rfl) (by kernel_rfl) (by kernel_rfl) (fun _ _ _ h => h) (Or.inl ⟨by rfl, _⟩) (by assumption) _
      rotate_left
      · (intro wS hSw; (try dsimp only at hSw); go_simp; try with_reducible rfl)
      try simp only [Act.put, nA, nB, nC]
      refine' wpAnyH_take (i := 21) (oi := ⟨some 40, .load 28 (.tmp 39), 28, "memory.go:48", #[⟨20, .data⟩, ⟨11, .guard⟩], some (11, false)⟩) rfl (by kernel_rfl) (by kernel_rfl) (by kernel_rfl) (fun _ _ _ h => h) (Or.inl ⟨by rfl, _⟩) (by assumption) _
      rotate_left
      · (intro wS hSw; (try dsimp only at hSw); go_simp; try with_reducible rfl)
      try simp only [Act.put, nA, nB, nC]
      refine wpAnyH_ready (rs := [22]) (by kernel_rfl) (by simp) ?_
      refine AllReadyH.cons (o := ⟨some 41, .call ⟨.value (.func 24), #[.tmp 35, .tmp 40], #[28, 28]⟩, 4, "memory.go:48", #[⟨16, .data⟩, ⟨21, .data⟩, ⟨11, .chain⟩, ⟨11, .guard⟩], some (11, false)⟩) rfl (fun K hK => ?_) AllReadyH.nil
      go_simp
      (refine HKN.out.mono ?_; rintro e w3 ⟨rfl, b3⟩)
      refine hK.out _ _ ?_ (fun hHeld => ?_)
      · exact ⟨(b3.cell (p := ⟨g, k * 2, none⟩) hgl).trans hHeld.1, (b3.cell (p := ⟨g, k * 2 + 1, none⟩) hgl).trans hHeld.2.1, (b3.cell (p := ⟨b2, o2 + k * 2, none⟩) hb2).trans hHeld.2.2.1, (b3.cell (p := ⟨b2, o2 + k * 2 + 1, none⟩) hb2).trans hHeld.2.2.2⟩
      clear hK K
      try simp only [Act.put, nA, nB, nC]
      refine' wpAnyH_take (i := 23) (oi := ⟨some 42, .unOp .not 4 (.tmp 41), 4, "memory.go:48", #[⟨22, .data⟩, ⟨11, .guard⟩], some (11, false)⟩) rfl (by kernel_rfl) (by kernel_rfl) (by kernel_rfl) (fun _ _ _ h => h) (Or.inl ⟨by rfl, _⟩) (by assumption) _
      rotate_left
      · (intro wS hSw; (try dsimp only at hSw); go_simp; try with_reducible rfl)
      try simp only [Act.put, nA, nB, nC]
      refine' wpAnyH_take (i := 24) (oi := ⟨some 43, .pick (.tmp 30) (.const (.bool true)) (.tmp 42), 4, "memory.go:48", #[⟨11, .data⟩, ⟨23, .data⟩], none⟩) rfl (by kernel_rfl) (by kernel_rfl) (by kernel_rfl) (fun _ _ _ h => h) (Or.inl ⟨by rfl, _⟩) (by assumption) _
      rotate_left
      · (intro wS hSw; (try dsimp only at hSw); go_simp; try with_reducible rfl)
      try simp only [Act.put, nA, nB, nC]
      refine wpAnyH_done (by kernel_rfl) ?_ _
      have HB3 : Hid (Below w.heap.size w w3) := HB.out.trans (((Below.refl _ _).drew.trans b3).mono HB.out.size)
      clear b3 hHeld q1 q2 f1 f2 HKN
      go_wp2_with fail
      exact ⟨⟨k9, hk3, HB3, rfl⟩, by simp only [intOf, Int.toNat_natCast]; exact hk4⟩
    case neg =>
      have ik : ¬ (k : Int) < (n : Int) := by omega
      have e1 : (n : Int) + 70 = (n7 : Int) := by omega
      have e2 : IntKind.i64.wrap (n7 : Int) = (n7 : Int) := IntWalk.i64_in _ (by have := hz.out; have := HL.out; omega)
      clear hlt hn7
      have HBF := Lib.hid HB.out
      go_upto_region 10 with fail
      clear ik e1 e2 hk HB
      go_loopw [7] (fun iv wr2 => ∃ (j : Nat), j ≤ 70 ∧ Hid (Below w.heap.size w wr2) ∧ iv = .int .i64 (j : Int)) (fun iv _ => 70 - (intOf iv).toNat)
      case atStart => exact ⟨0, Nat.zero_le _, HBF, rfl⟩
      case round =>
        obtain ⟨j, hj, HB, rfl⟩ := hrel
        by_cases hlt : j < 70
        case neg =>
          have ij : ¬ (j : Int) < 70 := by omega
          clear hlt
          go_wp2_with fail
          go_ret
          exact ⟨rfl, HB.out⟩
        case pos =>
          have ij : (j : Int) < 70 := by omega
          obtain ⟨y, hy⟩ : ∃ y, 800000 + j = y := ⟨_, rfl⟩
          have ey : (800000 : Int) + (j : Int) = (y : Int) := by omega
          have ey2 : IntKind.i64.wrap (y : Int) = (y : Int) := IntWalk.i64_in _ (by omega)
          have ey3 : IntKind.u32.wrap (y : Int) = (y : Int) := IntWalk.u32_in (y : Int) (by omega)
          obtain ⟨m, hm⟩ : ∃ m : Nat, n + j = m := ⟨_, rfl⟩
          have em1 : (n : Int) + (j : Int) = (m : Int) := by omega
          have em2 : IntKind.i64.wrap (m : Int) = (m : Int) := IntWalk.i64_in _ (by have := hz.out; have := HL.out; omega)
          have em3 : (m : Int) < (n7 : Int) := by have := H7.out; omega
          have hOr := HO.out.below HB.out (fun i hi => (HO.out.lt i hi).2)
          obtain ⟨q1, q2⟩ := hOr.cell m (by rw [List.length_append, marksC_len]; have := HL.out; have := HBL.out; omega)
          rw [List.getElem_append_right (by have := HL.out; have := HBL.out; omega), marksC_get, show 800000 + (m - bs.length) = y by have := HL.out; have := HBL.out; omega] at q1
          rw [List.getElem_append_right (by have := HL.out; have := HBL.out; omega), marksC_get] at q2
          simp only at q1 q2
          unfold uN at q1
          obtain ⟨j9, hj9⟩ : ∃ j9 : Nat, j9 = j + 1 := ⟨_, rfl⟩
          have ew1 : (j : Int) + 1 = (j9 : Int) := by omega
          have ew2 : IntKind.i64.wrap (j9 : Int) = (j9 : Int) := IntWalk.i64_in _ (by omega)
          have hj3 : j9 ≤ 70 := by omega
          have hj4 : 70 - j9 < 70 - j := by omega
          have en : ((y : Int) != (y : Int)) = false := by simp
          have hq0 : 0 + m * 2 = m * 2 := Nat.zero_add _
          clear hj9 hy hm hlt hOr
          go_wp2_with fail
          exact ⟨⟨j9, hj3, HB, rfl⟩, by simp only [intOf, Int.toNat_natCast]; exact hj4⟩
end Go.Proofs.Ytkngmnfgdlnddaa

