/-
  Add and New, whatever block an empty row of texts names. The walk of RingsSound. RingsSound.
-/
import Derived.Test.YtihbhpggpnmifaaGX
import Derived.Test.YtihbhpggpnmifaaGZ
set_option linter.unusedSimpArgs false
set_option linter.unusedVariables false
namespace Go.Proofs.Ytihbhpggpnmifaa
open Go.RowKit Go.Lib Hw
set_option linter.unusedVariables false

set_option maxHeartbeats 8000000 in
theorem Add_gen (w : World) (B p b : Nat) (lv : Value) (wd : Nat) (L : List Dg) (v : Value) (ss : List ByteArray) (h : Hid (LogB w B p b lv wd L)) (hw : 1 ≤ wd) (hwd : wd ≤ 32) (hv : Hid (StrRow w v ss)) (hn : L.length + ss.length ≤ 1048576) (hss : Hid (∀ s ∈ ss, s.size ≤ 140737488355300)) (hB : B ≤ w.heap.size)
    (hdis : Hid (0 < ss.length → ∀ k, v.ownBlock = some k → k < w.heap.size ∧ k ≠ p ∧ lv.ownBlock ≠ some k)) :
    Calls Try.prog 26 #[.pointer (some ⟨p, 0, none⟩), v] w (AddPost w B p b lv wd L (ss.map (leafD wd))) := by
  obtain ⟨ad, cap, hlv, _⟩ := h.out.leaves.shape
  obtain ⟨vad, vc, rfl, hvs⟩ := strRow_form hv.out
  clear hvs
  have hlen := h.out.len
  have c1 := h.out.cell1
  have cw := h.out.cell0
  rw [hlv] at c1
  have d1 : decide ((1048576 : Int) - (L.length : Int) < (ss.length : Int)) = false := decide_eq_false (by omega)
  go_enter Try.func26, Try.ntmps26
  go_wp2_with (go_at_call 55; refine (off_log _ B p b _ wd L h hw).mono ?_; rintro e w3 ⟨rfl, rfl⟩)
  clear c1 cw d1
  go_loopw [22] (fun i wr => ∃ (k : Nat) (lvk : Value), k ≤ ss.length ∧ Hid (LogB wr B p b lvk wd (L ++ (ss.take k).map (leafD wd))) ∧ Hid (Mod (fun k => k = p ∨ lv.ownBlock = some k) w wr) ∧ Hid (∀ g, lvk.ownBlock = some g → lv.ownBlock = some g ∨ w.heap.size ≤ g) ∧ i = .int .i64 (k : Int)) (fun i _ => ss.length - (intOf i).toNat)
  case atStart => exact ⟨0, lv, Nat.zero_le _, by simpa using h, Mod.refl _ _, fun g hg => .inl hg, rfl⟩
  case round =>
    obtain ⟨k, lvk, hk, HL, HM, HO, rfl⟩ := hrel
    by_cases hlt : k < ss.length
    · have dk : decide (k < ss.length) = true := decide_eq_true hlt
      have dk2 : decide ((k : Int) < (ss.length : Int)) = true := decide_eq_true (by omega)
      have ik : (k : Int) < (ss.length : Int) := by omega
      obtain ⟨LK, hLK⟩ : ∃ LK, L ++ (ss.take k).map (leafD wd) = LK := ⟨_, rfl⟩
      have hLKl : LK.length = L.length + k := by rw [← hLK]; simp; omega
      have hnext : L ++ (ss.take (k + 1)).map (leafD wd) = LK ++ [leafD wd ss[k]] := by rw [map_take _ _ _ hlt, ← hLK, List.append_assoc]
      rw [hLK] at HL
      clear hLK
      have hrow := hv.out.mod HM.out (fun g hg hh => by
        have h3 := hdis.out (by omega) g hg
        rcases hh with hh | hh
        · exact h3.2.1 hh
        · exact h3.2.2 hh)
      obtain ⟨vad', vc', hvv, hvs⟩ := strRow_form hrow
      obtain ⟨rfl, rfl⟩ : vad = vad' ∧ vc = vc' := by simpa using hvv
      obtain ⟨vb, vo, rfl, hcs⟩ := hvs (by omega)
      have hc := hcs k hlt
      have hsz := hss.out ss[k] (List.getElem_mem hlt)
      obtain ⟨s, hs⟩ : ∃ s, ss[k] = s := ⟨_, rfl⟩
      rw [hs] at hc hsz hnext
      have HN := Lib.hid hnext
      have HLl := Lib.hid hLKl
      clear hcs hvs hvv hs hnext hrow hLKl
      have cw := HL.out.cell0
      go_upto_region 8 with fail
      refine wp_region_list ?_
      refine wpList_plain rfl (fun K hK => ?_)
      go_simp
      refine hK _ _ ?_
      clear hK K
      (try simp only [Act.put, nA, nB, nC])
      refine wpList_plain rfl (fun K hK => ?_)
      go_simp
      refine hK _ _ ?_
      clear hK K
      (try simp only [Act.put, nA, nB, nC])
      refine wpList_plain rfl (fun K hK => ?_)
      go_simp
      refine hK _ _ ?_
      clear hK K
      (try simp only [Act.put, nA, nB, nC])
      refine wpList_plain rfl (fun K hK => ?_)
      go_simp
      refine hK _ _ ?_
      clear hK K
      (try simp only [Act.put, nA, nB, nC])
      refine wpList_plain rfl (fun K hK => ?_)
      go_simp
      refine hK _ _ ?_
      clear hK K
      (try simp only [Act.put, nA, nB, nC])
      refine wpList_plain rfl (fun K hK => ?_)
      go_simp
      refine (Leaf_any wd s wr hw hwd hsz).mono ?_; rintro e w3 ⟨rfl, hb3⟩
      refine hK _ _ ?_
      clear hK K
      (try simp only [Act.put, nA, nB, nC])
      obtain ⟨D, hD⟩ : ∃ D, leafD wd s = D := ⟨_, rfl⟩
      have HDl : Hid (List.length D = 32) := by rw [← hD]; exact leafD_length _ _
      have HN' := HN.out
      rw [hD] at HN' ⊢
      clear hD HN
      have HN := Lib.hid HN'
      clear HN'
      refine wpList_plain rfl (fun K hK => ?_)
      go_simp
      refine hK _ _ ?_
      clear hK K
      (try simp only [Act.put, nA, nB, nC])
      refine wpList_plain rfl (fun K hK => ?_)
      go_simp
      refine hK _ _ ?_
      clear hK K
      (try simp only [Act.put, nA, nB, nC])
      refine wpList_plain rfl (fun K hK => ?_)
      go_simp
      refine hK _ _ ?_
      clear hK K
      (try simp only [Act.put, nA, nB, nC])
      refine wpList_allocD rfl rfl w3.heap.size rfl ?_
      intro w4 e4 b4 z4
      (try simp only [Act.put, nA, nB, nC])
      refine wpList_storeD rfl _ _ rfl w3.heap.size rfl zeros32 D rfl HDl.out rfl e4 ?_
      intro w5 e5 b5 k5 z5
      (try simp only [Act.put, nA, nB, nC])
      have b35 : Below wr.heap.size wr w5 := (hb3.trans (b4.mono hb3.size)).trans (b5.mono hb3.size)
      have hz3 := hb3.size
      have L5 := Lib.hid (HL.out.below b35)
      have M5 : Hid (Mod (fun k => k = p ∨ lv.ownBlock = some k) w w5) := HM.out.then (Mod.of _ b35)
      have D5 := Lib.hid e5
      have hzr := HM.out.size
      have HOw : Hid (∀ g, lvk.ownBlock = some g → g < wr.heap.size) := fun g hg => (HL.out.leaves.lt g hg).2
      have HPz : Hid (p < wr.heap.size) := HL.out.lt
      refine wpList_plain rfl (fun K hK => ?_)
      go_simp
      refine hK _ _ ?_
      clear hK K
      (try simp only [Act.put, nA, nB, nC])
      clear hb3 e4 b4 e5 b5 k5 b35 cw HL HM hc
      obtain ⟨x, hx⟩ : ∃ x, w3.heap.size = x := ⟨_, rfl⟩
      rw [hx] at D5 hz3 z4 ⊢
      clear hx
      have c1 := L5.out.cell1
      go_upto_region 9 with fail
      refine wp_region_held_drew (S := fun W => DB W x D) (by kernel_rfl) D5.out (fun hHeld => ?_)
      refine' wpAnyH_take (i := 0) (oi := ⟨some 35, .move (.tmp 0), 40, "rings.go:85", #[], none⟩) rfl (by kernel_rfl) (by kernel_rfl) (by kernel_rfl) (fun _ _ _ h => h) (Or.inl ⟨by rfl, _⟩) (by assumption) _
      rotate_left
      · (intro wS hSw; (try dsimp only at hSw); go_simp; try with_reducible rfl)
      try simp only [Act.put, nA, nB, nC]
      refine' wpAnyH_take (i := 1) (oi := ⟨some 36, .move (.tmp 0), 40, "rings.go:85", #[], none⟩) rfl (by kernel_rfl) (by kernel_rfl) (by kernel_rfl) (fun _ _ _ h => h) (Or.inl ⟨by rfl, _⟩) (by assumption) _
      rotate_left
      · (intro wS hSw; (try dsimp only at hSw); go_simp; try with_reducible rfl)
      try simp only [Act.put, nA, nB, nC]
      refine' wpAnyH_take (i := 2) (oi := ⟨some 37, .nilCheck (.tmp 36), 0, "rings.go:85", #[⟨1, .data⟩], none⟩) rfl (by kernel_rfl) (by kernel_rfl) (by kernel_rfl) (fun _ _ _ h => h) (Or.inl ⟨by rfl, _⟩) (by assumption) _
      rotate_left
      · (intro wS hSw; (try dsimp only at hSw); go_simp; try with_reducible rfl)
      try simp only [Act.put, nA, nB, nC]
      refine' wpAnyH_take (i := 3) (oi := ⟨some 38, .fieldAddr 101 (.tmp 37) 1, 0, "rings.go:85", #[⟨2, .data⟩], none⟩) rfl (by kernel_rfl) (by kernel_rfl) (by kernel_rfl) (fun _ _ _ h => h) (Or.inl ⟨by rfl, _⟩) (by assumption) _
      rotate_left
      · (intro wS hSw; (try dsimp only at hSw); go_simp; try with_reducible rfl)
      try simp only [Act.put, nA, nB, nC]
      refine' wpAnyH_take (i := 5) (oi := ⟨some 40, .load 23 (.tmp 7), 23, "rings.go:85", #[], none⟩) rfl (by kernel_rfl) (by kernel_rfl) (by kernel_rfl) (fun _ _ _ h => h) (yieldsIf_loadD (by rfl) _ rfl (x) rfl (D) (HDl.out) (fun W hW => hW)) (by assumption) _
      try simp only [Act.put, nA, nB, nC]
      refine wpAnyH_ready (rs := [4, 6]) (by kernel_rfl) (by simp) ?_
      refine (AllReadyH.cons (o := ⟨some 39, .load 32 (.tmp 38), 32, "rings.go:85", #[⟨3, .data⟩], none⟩) rfl (fun K hK => ?_) (AllReadyH.cons (o := ⟨some 41, .buildSlice 32 1 #[(0, .tmp 40)], 32, "rings.go:85", #[⟨5, .data⟩], none⟩) rfl (fun K hK => ?_) AllReadyH.nil))
      · go_simp
        refine hK.out _ _ ?_ (fun hHeld => ?_)
        · exact hHeld
        clear hK K
        (try simp only [Act.put, nA, nB, nC])
        refine wpAnyH_ready (rs := [6]) (by kernel_rfl) (by simp) ?_
        refine (AllReadyH.cons (o := ⟨some 41, .buildSlice 32 1 #[(0, .tmp 40)], 32, "rings.go:85", #[⟨5, .data⟩], none⟩) rfl (fun K hK => ?_) AllReadyH.nil)
        set_option maxRecDepth 20000 in
        refine step_of rfl (wp_slice1 _ rfl D HDl.out rfl (x + 1) (z5.trans z4) ?_)
        intro w6 e6 b6 z6
        have b56 : Below w5.heap.size w5 w6 := Below.trans (Below.refl _ _).drew (b6.mono (by omega))
        have L6 := Lib.hid (L5.out.below b56)
        have c6 := L6.out.cell1
        refine hK.out _ _ ?_ (fun hHeld => ?_)
        · exact heap_below D5.out b56 (by omega)
        clear hK K
        (try simp only [Act.put, nA, nB, nC])
        refine wpAnyH_ready (rs := [7]) (by kernel_rfl) (by simp) ?_
        refine AllReadyH.cons (o := ⟨some 42, .call ⟨.builtin .append, #[.tmp 39, .tmp 41], #[32, 32]⟩, 32, "rings.go:85", #[⟨4, .data⟩, ⟨6, .data⟩], none⟩) rfl (fun K hK => ?_) AllReadyH.nil
        (set_option maxRecDepth 20000 in refine step_of rfl (wp_appR w6 D HDl.out _ _ rfl B lvk LK rfl L6.out.leaves L6.out.all (x + 1) 1 rfl e6 (by have := HLl.out; omega) (by omega) ?_); intro g2 cap2 w7 ho7 hg7 hs7; have m7 : Mod (fun k => lvk.ownBlock = some k) w6 w7 := Mod.grown hg7 (fun k e => e); have c7 := heap_cell (m7.heap L6.out.cells L6.out.hlp) (o := 1); have f7 := heap_free (m7.heap L6.out.cells L6.out.hlp) 1)
        refine hK.out _ _ ?_ (fun hHeld => ?_)
        · exact m7.heap (heap_below D5.out b56 (by omega)) (fun e => by have := HOw.out _ e; omega)
        clear hK K
        try simp only [Act.put, nA, nB, nC]
        refine' wpAnyH_take (i := 8) (oi := ⟨some 43, .nilCheck (.tmp 35), 0, "rings.go:85", #[⟨0, .data⟩, ⟨0, .phase⟩, ⟨1, .phase⟩, ⟨2, .phase⟩, ⟨3, .phase⟩, ⟨4, .phase⟩, ⟨5, .phase⟩, ⟨6, .phase⟩, ⟨7, .phase⟩], none⟩) rfl (by kernel_rfl) (by kernel_rfl) (by kernel_rfl) (fun _ _ _ h => h) (Or.inl ⟨by rfl, _⟩) (by assumption) _
        rotate_left
        · (intro wS hSw; (try dsimp only at hSw); go_simp; try with_reducible rfl)
        try simp only [Act.put, nA, nB, nC]
        refine' wpAnyH_take (i := 9) (oi := ⟨some 44, .fieldAddr 101 (.tmp 43) 1, 0, "rings.go:85", #[⟨8, .data⟩, ⟨0, .phase⟩, ⟨1, .phase⟩, ⟨2, .phase⟩, ⟨3, .phase⟩, ⟨4, .phase⟩, ⟨5, .phase⟩, ⟨6, .phase⟩, ⟨7, .phase⟩], none⟩) rfl (by kernel_rfl) (by kernel_rfl) (by kernel_rfl) (fun _ _ _ h => h) (Or.inl ⟨by rfl, _⟩) (by assumption) _
        rotate_left
        · (intro wS hSw; (try dsimp only at hSw); go_simp; try with_reducible rfl)
        try simp only [Act.put, nA, nB, nC]
        have hz7 := m7.size
        have hlt5 : w5.heap.size < w6.heap.size := by omega
        have hos : ∀ g, (Value.slice (some ⟨g2, 0, none⟩) (LK.length + 1) cap2).ownBlock = some g → lvk.ownBlock = some g ∨ w6.heap.size ≤ g := fun g hg => by
          obtain rfl : g2 = g := Option.some.inj hg
          rcases hs7 with h1 | h1
          · exact .inl h1
          · right; omega
        have T8 := Lib.hid (L6.out.app HDl.out (by have := HLl.out; omega) hg7 ho7 hos)
        have M8 : Hid (Mod (fun k => k = p ∨ lv.ownBlock = some k) w (w7.setCell ⟨p, 1, none⟩ (.slice (some ⟨g2, 0, none⟩) (LK.length + 1) cap2))) :=
          (((M5.out.then (Mod.of _ b56)).trans m7 (fun i hi e => by rcases HO.out _ e with h1 | h1; exact .inr h1; omega))).then (Mod.set (o := 1) w7 (.inl rfl) _)
        have O8 : Hid (∀ g, (Value.slice (some ⟨g2, 0, none⟩) (LK.length + 1) cap2).ownBlock = some g → lv.ownBlock = some g ∨ w.heap.size ≤ g) := fun g hg => by
          rcases hos g hg with h1 | h1
          · exact HO.out g h1
          · right; omega
        have D8 := heap_setOther (a := ⟨p, 1, none⟩) (m7.heap (heap_below D5.out b56 (by omega)) (fun e => by have := HOw.out _ e; omega)) (by show x ≠ p; have := HPz.out; omega) (.slice (some ⟨g2, 0, none⟩) (LK.length + 1) cap2)
        refine wpAnyH_ready (rs := [10]) (by kernel_rfl) (by simp) ?_
        refine AllReadyH.cons (o := ⟨none, .store 32 (.tmp 44) (.tmp 42), 0, "rings.go:85", #[⟨9, .data⟩, ⟨7, .data⟩, ⟨7, .chain⟩, ⟨0, .phase⟩, ⟨1, .phase⟩, ⟨2, .phase⟩, ⟨3, .phase⟩, ⟨4, .phase⟩, ⟨5, .phase⟩, ⟨6, .phase⟩, ⟨7, .phase⟩], none⟩) rfl (fun K hK => ?_) AllReadyH.nil
        go_simp
        refine hK.out _ _ ?_ (fun hHeld => ?_)
        · exact D8
        clear hK K
        try simp only [Act.put, nA, nB, nC]
        refine wpAnyH_done (by kernel_rfl) ?_ _
        rw [← HN.out] at T8
        clear hHeld D8 m7 hg7 ho7 hs7 hos c7 f7 c6 L6 L5 M5 D5 e6 b6 b56 c1
        set_option maxRecDepth 5000 in
        go_wp2_with fail
        exact ⟨⟨k + 1, _, by omega, T8, M8, O8, by go_num⟩, by simp [intOf]; omega⟩
      · set_option maxRecDepth 20000 in
        refine step_of rfl (wp_slice1 _ rfl D HDl.out rfl (x + 1) (z5.trans z4) ?_)
        intro w6 e6 b6 z6
        have b56 : Below w5.heap.size w5 w6 := Below.trans (Below.refl _ _).drew (b6.mono (by omega))
        have L6 := Lib.hid (L5.out.below b56)
        have c6 := L6.out.cell1
        refine hK.out _ _ ?_ (fun hHeld => ?_)
        · exact heap_below D5.out b56 (by omega)
        clear hK K
        (try simp only [Act.put, nA, nB, nC])
        refine wpAnyH_ready (rs := [4]) (by kernel_rfl) (by simp) ?_
        refine (AllReadyH.cons (o := ⟨some 39, .load 32 (.tmp 38), 32, "rings.go:85", #[⟨3, .data⟩], none⟩) rfl (fun K hK => ?_) AllReadyH.nil)
        go_simp
        refine hK.out _ _ ?_ (fun hHeld => ?_)
        · exact hHeld
        clear hK K
        (try simp only [Act.put, nA, nB, nC])
        refine wpAnyH_ready (rs := [7]) (by kernel_rfl) (by simp) ?_
        refine AllReadyH.cons (o := ⟨some 42, .call ⟨.builtin .append, #[.tmp 39, .tmp 41], #[32, 32]⟩, 32, "rings.go:85", #[⟨4, .data⟩, ⟨6, .data⟩], none⟩) rfl (fun K hK => ?_) AllReadyH.nil
        (set_option maxRecDepth 20000 in refine step_of rfl (wp_appR w6 D HDl.out _ _ rfl B lvk LK rfl L6.out.leaves L6.out.all (x + 1) 1 rfl e6 (by have := HLl.out; omega) (by omega) ?_); intro g2 cap2 w7 ho7 hg7 hs7; have m7 : Mod (fun k => lvk.ownBlock = some k) w6 w7 := Mod.grown hg7 (fun k e => e); have c7 := heap_cell (m7.heap L6.out.cells L6.out.hlp) (o := 1); have f7 := heap_free (m7.heap L6.out.cells L6.out.hlp) 1)
        refine hK.out _ _ ?_ (fun hHeld => ?_)
        · exact m7.heap (heap_below D5.out b56 (by omega)) (fun e => by have := HOw.out _ e; omega)
        clear hK K
        try simp only [Act.put, nA, nB, nC]
        refine' wpAnyH_take (i := 8) (oi := ⟨some 43, .nilCheck (.tmp 35), 0, "rings.go:85", #[⟨0, .data⟩, ⟨0, .phase⟩, ⟨1, .phase⟩, ⟨2, .phase⟩, ⟨3, .phase⟩, ⟨4, .phase⟩, ⟨5, .phase⟩, ⟨6, .phase⟩, ⟨7, .phase⟩], none⟩) rfl (by kernel_rfl) (by kernel_rfl) (by kernel_rfl) (fun _ _ _ h => h) (Or.inl ⟨by rfl, _⟩) (by assumption) _
        rotate_left
        · (intro wS hSw; (try dsimp only at hSw); go_simp; try with_reducible rfl)
        try simp only [Act.put, nA, nB, nC]
        refine' wpAnyH_take (i := 9) (oi := ⟨some 44, .fieldAddr 101 (.tmp 43) 1, 0, "rings.go:85", #[⟨8, .data⟩, ⟨0, .phase⟩, ⟨1, .phase⟩, ⟨2, .phase⟩, ⟨3, .phase⟩, ⟨4, .phase⟩, ⟨5, .phase⟩, ⟨6, .phase⟩, ⟨7, .phase⟩], none⟩) rfl (by kernel_rfl) (by kernel_rfl) (by kernel_rfl) (fun _ _ _ h => h) (Or.inl ⟨by rfl, _⟩) (by assumption) _
        rotate_left
        · (intro wS hSw; (try dsimp only at hSw); go_simp; try with_reducible rfl)
        try simp only [Act.put, nA, nB, nC]
        have hz7 := m7.size
        have hlt5 : w5.heap.size < w6.heap.size := by omega
        have hos : ∀ g, (Value.slice (some ⟨g2, 0, none⟩) (LK.length + 1) cap2).ownBlock = some g → lvk.ownBlock = some g ∨ w6.heap.size ≤ g := fun g hg => by
          obtain rfl : g2 = g := Option.some.inj hg
          rcases hs7 with h1 | h1
          · exact .inl h1
          · right; omega
        have T8 := Lib.hid (L6.out.app HDl.out (by have := HLl.out; omega) hg7 ho7 hos)
        have M8 : Hid (Mod (fun k => k = p ∨ lv.ownBlock = some k) w (w7.setCell ⟨p, 1, none⟩ (.slice (some ⟨g2, 0, none⟩) (LK.length + 1) cap2))) :=
          (((M5.out.then (Mod.of _ b56)).trans m7 (fun i hi e => by rcases HO.out _ e with h1 | h1; exact .inr h1; omega))).then (Mod.set (o := 1) w7 (.inl rfl) _)
        have O8 : Hid (∀ g, (Value.slice (some ⟨g2, 0, none⟩) (LK.length + 1) cap2).ownBlock = some g → lv.ownBlock = some g ∨ w.heap.size ≤ g) := fun g hg => by
          rcases hos g hg with h1 | h1
          · exact HO.out g h1
          · right; omega
        have D8 := heap_setOther (a := ⟨p, 1, none⟩) (m7.heap (heap_below D5.out b56 (by omega)) (fun e => by have := HOw.out _ e; omega)) (by show x ≠ p; have := HPz.out; omega) (.slice (some ⟨g2, 0, none⟩) (LK.length + 1) cap2)
        refine wpAnyH_ready (rs := [10]) (by kernel_rfl) (by simp) ?_
        refine AllReadyH.cons (o := ⟨none, .store 32 (.tmp 44) (.tmp 42), 0, "rings.go:85", #[⟨9, .data⟩, ⟨7, .data⟩, ⟨7, .chain⟩, ⟨0, .phase⟩, ⟨1, .phase⟩, ⟨2, .phase⟩, ⟨3, .phase⟩, ⟨4, .phase⟩, ⟨5, .phase⟩, ⟨6, .phase⟩, ⟨7, .phase⟩], none⟩) rfl (fun K hK => ?_) AllReadyH.nil
        go_simp
        refine hK.out _ _ ?_ (fun hHeld => ?_)
        · exact D8
        clear hK K
        try simp only [Act.put, nA, nB, nC]
        refine wpAnyH_done (by kernel_rfl) ?_ _
        rw [← HN.out] at T8
        clear hHeld D8 m7 hg7 ho7 hs7 hos c7 f7 c6 L6 L5 M5 D5 e6 b6 b56 c1
        set_option maxRecDepth 5000 in
        go_wp2_with fail
        exact ⟨⟨k + 1, _, by omega, T8, M8, O8, by go_num⟩, by simp [intOf]; omega⟩
    · have hk2 : k = ss.length := by omega
      have dk : decide (k < ss.length) = false := decide_eq_false hlt
      have dk2 : decide ((k : Int) < (ss.length : Int)) = false := decide_eq_false (by omega)
      rw [hk2, List.take_length] at HL
      have hf : AddPost w B p b lv wd L (ss.map (leafD wd)) (.returned (.int .i64 0)) wr := ⟨rfl, lvk, HL.out, HM.out, HO.out⟩
      have Hf := Lib.hid hf
      clear hf HL HM HO
      go_wp2_with fail
      go_ret
      exact Hf.out
set_option maxHeartbeats 2000000 in
theorem New_gen (wd : Nat) (v : Value) (ss : List ByteArray) (w : World) (hw : 1 ≤ wd) (hwd : wd ≤ 32) (hv : Hid (StrRow w v ss)) (hn : ss.length ≤ 1048576) (hss : Hid (∀ s ∈ ss, s.size ≤ 140737488355300)) :
    Calls Try.prog 24 #[.int .i64 (wd : Int), v] w (NewPost w wd (ss.map (leafD wd))) := by
  have hwb : wideB (wd : Int) = true := by simp [wideB]; omega
  have HW := Lib.hid hwb
  clear hwb
  have hmm := @run_makeMap Try.prog
  go_enter Try.func24, Try.ntmps24
  go_upto_region 4 with (go_at_call 42; refine (right_any _ _).mono ?_; rintro e w3 ⟨rfl, rfl⟩; rw [HW.out])
  refine wp_name (fun W => LogB W w.heap.size (w.heap.size + 1) w.heap.size (.slice none 0 0) wd [] ∧ Below w.heap.size w W ∧ W.heap.size = w.heap.size + 2) ⟨LogB.made w wd _ rfl, ((Below.refl _ _).alloc (Nat.le_refl _) _).alloc (by simp) _, by simp⟩ (fun w1 hq => ?_)
  obtain ⟨l1, b1, z1⟩ := hq
  have V1 := hv.out.below' b1
  have L1 := Lib.hid l1
  have B1 := Lib.hid b1
  clear l1 b1
  go_upto_region 5 with (go_at_call 26; refine (Add_gen w1 w.heap.size (w.heap.size + 1) w.heap.size _ wd [] v ss L1 hw hwd V1 (by simpa using hn) hss (by omega) (fun hp k hk => ⟨by have := hv.out.lt hp k hk; omega, by have := hv.out.lt hp k hk; omega, by simp [Value.ownBlock]⟩)).mono ?_; rintro e w2 ⟨rfl, lv2, L2, M2, O2⟩)
  have hf : NewPost w wd (ss.map (leafD wd)) (.returned (.tuple #[.pointer (some ⟨w.heap.size + 1, 0, none⟩), .int .i64 0])) w2 :=
    ⟨_, _, lv2, rfl, L2, B1.out.trans (M2.below (n := w.heap.size) (fun k hk e => by rcases e with e | e; omega; cases e) (by omega))⟩
  have Hf := Lib.hid hf
  clear hf L2 M2 O2 V1
  go_wp2_with fail
  go_ret2
  exact Hf.out
end Go.Proofs.Ytihbhpggpnmifaa

namespace Go.Proofs.Ytihbhpggpnmifaa
open Go.RowKit Go.Lib Hw
set_option linter.unusedVariables false

theorem trail_all (w : Nat) (L : List Dg) (hL : All32 L) : ∀ (n a i : Nat), a + n ≤ L.length → All32 (trailP w L a i n) := by
  intro n
  induction n using Nat.strongRecOn with
  | _ n ih =>
    intro a i h d hd
    by_cases hn : n ≤ 1
    · rw [trailP_one w L a i n hn] at hd; simp at hd
    · have hs := half_spec (n := n) (by omega)
      by_cases hk : i < halfN n
      · rw [trailP_left w L a i n (by omega) hk] at hd
        rcases List.mem_append.1 hd with hd | hd
        · exact ih (halfN n) (by omega) a i (by omega) d hd
        · rw [List.mem_singleton.1 hd]; exact spanD_length w L _ _ hL (by omega)
      · rw [trailP_right w L a i n (by omega) hk] at hd
        rcases List.mem_append.1 hd with hd | hd
        · exact ih (n - halfN n) (by omega) _ _ (by omega) d hd
        · rw [List.mem_singleton.1 hd]; exact spanD_length w L _ _ hL (by omega)
theorem Sound_bad (n : Int) (v v2 v3 v5 : Value) (leaf : Dg) (w : World) (h : Hid (wideB n = false)) :
    Calls Try.prog 10 #[.int .i64 n, v, v2, v3, dv leaf, v5] w fun e w' => e = .returned (.bool true) ∧ Below w.heap.size w w' := by
  go_enter Try.func10, Try.ntmps10
  go_upto_region 0 with fail
  with_reducible refine wp_region_list ?_
  refine wpList_boxD rfl _ rfl leaf rfl w.heap.size rfl ?_
  intro w1 e1 b1 z1
  (try simp only [Act.put, nA, nB, nC])
  with_reducible refine wpList_plain rfl ?_
  intro K hK
  go_simp
  first | with_reducible refine hK _ _ ?_ | refine hK _ _ ?_
  clear hK K
  (try simp only [Act.put, nA, nB, nC])
  go_upto_region 2 with (go_at_call 22; refine (refRight_any _ _).mono ?_; rintro e w' ⟨rfl, rfl⟩; rw [h.out])
  go_wp2_with (go_at_call 15; refine (lives_any _).mono ?_; rintro e w' ⟨rfl, hb⟩)
  go_ret
  exact ⟨rfl, b1.trans (hb.mono (by omega))⟩

set_option maxRecDepth 4000 in
set_option maxHeartbeats 16000000 in
theorem Sound_ok (wd : Nat) (hw : 1 ≤ wd) (hwd : wd ≤ 32) (ad : Option Addr) (n c : Nat) (ss : List ByteArray) (i size : Nat) (leaf : Dg) (vq : Value) (q : List Dg) (w : World) (hv : Hid (StrRow w (.slice ad n c) ss)) (hnc : n ≤ c) (hn : n = ss.length) (hss : Hid (∀ s ∈ ss, s.size ≤ 140737488355300))
    (hi : i < 18446744073709551616) (hs : size < 18446744073709551616) (hll : Hid (leaf.length = 32)) (hq : Hid (DRow w w.heap.size vq q)) :
    Calls Try.prog 10 #[.int .i64 (wd : Int), .slice ad n c, .int .u64 (i : Int), .int .u64 (size : Int), dv leaf, vq] w fun e w' => e = .returned (.bool true) ∧ Below w.heap.size w w' := by
  have hwb : wideB (wd : Int) = true := by simp [wideB]; omega
  have HWb := Lib.hid hwb
  have hT24 : min n 24 ≤ 24 := Nat.min_le_right _ _
  have htk := hv.out.take (min n 24) (by rw [← hn]; exact Nat.min_le_left _ _)
  have HFew : Hid (∀ w, StrRow w (.slice ad n c) ss → Calls Try.prog 23 #[.slice ad n c] w fun e w' => e = .returned (.slice ad (min n 24) c) ∧ w = w') := fun w h => few_any ad n c ss w h hnc hn
  obtain ⟨T, hT⟩ : ∃ T, min n 24 = T := ⟨_, rfl⟩
  have htl : (ss.take T).length = T := by rw [List.length_take, ← hT]; omega
  rw [hT] at HFew hT24 htk
  obtain ⟨t, ht⟩ : ∃ t, ss.take T = t := ⟨_, rfl⟩
  have hts : ∀ s ∈ t, s.size ≤ 140737488355300 := fun s hs => hss.out s (List.mem_of_mem_take (by rw [ht]; exact hs))
  rw [ht] at htk htl
  obtain ⟨N, hN⟩ : ∃ N, w.heap.size = N := ⟨_, rfl⟩
  rw [hN] at hq ⊢
  have HN := Lib.hid hN
  obtain ⟨L, hL⟩ : ∃ L, t.map (leafD wd) = L := ⟨_, rfl⟩
  have HL := Lib.hid hL
  have hLl : L.length = T := by rw [← hL, List.length_map, htl]
  have hLa : All32 L := by
    rw [← hL]
    intro d hd
    obtain ⟨s, _, rfl⟩ := List.mem_map.1 hd
    exact leafD_length _ _
  have hLf : AllFit wd L := by
    rw [← hL]
    intro d hd
    obtain ⟨s, _, rfl⟩ := List.mem_map.1 hd
    exact fit_leaf wd s hw hwd
  have HT := Lib.hid htk
  have HTl := Lib.hid htl
  have HTs := Lib.hid hts
  have HLl := Lib.hid hLl
  have HLa := Lib.hid hLa
  have HLf := Lib.hid hLf
  clear hwb htk htl hts hLl hLa hLf hL ht hT hss hN hn
  by_cases hsT : size ≤ T
  case neg =>
    go_enter Try.func10, Try.ntmps10
    go_upto_region 0 with fail
    with_reducible refine wp_region_list ?_
    refine wpList_boxD rfl _ rfl leaf rfl N HN.out ?_
    intro w0 e0 b0 z0
    (try simp only [Act.put, nA, nB, nC])
    with_reducible refine wpList_plain rfl ?_
    intro K hK
    go_simp
    first | with_reducible refine hK _ _ ?_ | refine hK _ _ ?_
    clear hK K
    (try simp only [Act.put, nA, nB, nC])
    have E0 := Lib.hid e0
    have B0 := Lib.hid b0
    have Hv0 := hv.out.below' (by rw [HN.out]; exact b0)
    have HT0 := Lib.hid (HT.out.below' (by rw [HN.out]; exact b0))
    clear e0 b0
    go_upto_region 3 with (go_at_call 22; refine (refRight_any _ _).mono ?_; rintro e w' ⟨rfl, rfl⟩; rw [HWb.out])
    with_reducible refine wp_region_list ?_
    with_reducible refine wpList_plain rfl ?_
    intro K hK
    go_simp
    first | with_reducible refine hK _ _ ?_ | refine hK _ _ ?_
    clear hK K
    (try simp only [Act.put, nA, nB, nC])
    with_reducible refine wpList_plain rfl ?_
    intro K hK
    go_simp
    refine (HFew.out _ Hv0).mono ?_; rintro e w' ⟨rfl, rfl⟩
    first | with_reducible refine hK _ _ ?_ | refine hK _ _ ?_
    clear hK K
    (try simp only [Act.put, nA, nB, nC])
    clear Hv0
    with_reducible refine wpList_plain rfl ?_
    intro K hK
    go_simp
    first | with_reducible refine hK _ _ ?_ | refine hK _ _ ?_
    clear hK K
    (try simp only [Act.put, nA, nB, nC])
    go_upto_region 4 with fail
    with_reducible refine wp_region_list ?_
    with_reducible refine wpList_plain rfl ?_
    intro K hK
    go_simp
    first | with_reducible refine hK _ _ ?_ | refine hK _ _ ?_
    clear hK K
    (try simp only [Act.put, nA, nB, nC])
    with_reducible refine wpList_plain rfl ?_
    intro K hK
    go_simp
    first | with_reducible refine hK _ _ ?_ | refine hK _ _ ?_
    clear hK K
    (try simp only [Act.put, nA, nB, nC])
    with_reducible refine wpList_plain rfl ?_
    intro K hK
    go_simp
    refine (New_gen wd _ t w0 hw hwd HT0 (by rw [HTl.out]; omega) HTs).mono ?_; rintro e w1 ⟨p, b, lv, rfl, l1, b1⟩; rw [HL.out, z0] at l1
    first | with_reducible refine hK _ _ ?_ | refine hK _ _ ?_
    clear hK K
    (try simp only [Act.put, nA, nB, nC])
    have T1 : Hid (LogB w1 (N + 1) p b lv wd L) := l1
    have E1 := Lib.hid (heap_below E0.out b1 (by omega))
    have B1 := Lib.hid (B0.out.trans (b1.mono (by omega)))
    have hz1 := b1.size
    clear l1 b1 E0 B0 HT0
    with_reducible refine wpList_plain rfl ?_
    intro K hK
    go_simp
    first | with_reducible refine hK _ _ ?_ | refine hK _ _ ?_
    clear hK K
    (try simp only [Act.put, nA, nB, nC])
    with_reducible refine wpList_plain rfl ?_
    intro K hK
    go_simp
    first | with_reducible refine hK _ _ ?_ | refine hK _ _ ?_
    clear hK K
    (try simp only [Act.put, nA, nB, nC])
    with_reducible refine wpList_plain rfl ?_
    intro K hK
    go_simp
    first | with_reducible refine hK _ _ ?_ | refine hK _ _ ?_
    clear hK K
    (try simp only [Act.put, nA, nB, nC])
    with_reducible refine wpList_plain rfl ?_
    intro K hK
    go_simp
    first | with_reducible refine hK _ _ ?_ | refine hK _ _ ?_
    clear hK K
    (try simp only [Act.put, nA, nB, nC])
    with_reducible refine wpList_plain rfl ?_
    intro K hK
    go_simp
    first | with_reducible refine hK _ _ ?_ | refine hK _ _ ?_
    clear hK K
    (try simp only [Act.put, nA, nB, nC])
    go_upto_region 5 with fail
    with_reducible refine wp_region_list ?_
    with_reducible refine wpList_plain rfl ?_
    intro K hK
    go_simp
    first | with_reducible refine hK _ _ ?_ | refine hK _ _ ?_
    clear hK K
    (try simp only [Act.put, nA, nB, nC])
    with_reducible refine wpList_plain rfl ?_
    intro K hK
    go_simp
    first | with_reducible refine hK _ _ ?_ | refine hK _ _ ?_
    clear hK K
    (try simp only [Act.put, nA, nB, nC])
    with_reducible refine wpList_plain rfl ?_
    intro K hK
    go_simp
    first | with_reducible refine hK _ _ ?_ | refine hK _ _ ?_
    clear hK K
    (try simp only [Act.put, nA, nB, nC])
    with_reducible refine wpList_step ?_
    intro K hK
    rw [if_pos (by rfl)]
    go_simp
    first | with_reducible refine hK _ _ ?_ | refine hK _ _ ?_
    clear hK K
    (try simp only [Act.put, nA, nB, nC])
    with_reducible refine wpList_step ?_
    intro K hK
    rw [if_pos (by rfl)]
    go_simp
    first | with_reducible refine hK _ _ ?_ | refine hK _ _ ?_
    clear hK K
    (try simp only [Act.put, nA, nB, nC])
    with_reducible refine wpList_plain rfl ?_
    intro K hK
    go_simp
    first | with_reducible refine hK _ _ ?_ | refine hK _ _ ?_
    clear hK K
    (try simp only [Act.put, nA, nB, nC])
    with_reducible refine wpList_plain rfl ?_
    intro K hK
    go_simp
    first | with_reducible refine hK _ _ ?_ | refine hK _ _ ?_
    clear hK K
    (try simp only [Act.put, nA, nB, nC])
    with_reducible refine wpList_step ?_
    intro K hK
    rw [if_pos (by rfl)]
    go_simp
    refine (lives_any _).mono ?_; rintro e w2 ⟨rfl, b2⟩
    first | with_reducible refine hK _ _ ?_ | refine hK _ _ ?_
    clear hK K
    (try simp only [Act.put, nA, nB, nC])
    have T2 := Lib.hid (T1.out.below b2)
    have E2 := Lib.hid (heap_below E1.out b2 (by omega))
    have B2 := Lib.hid (B1.out.trans (b2.mono (by omega)))
    have hz2 := b2.size
    clear b2 T1 B1 E1
    with_reducible refine wpList_step ?_
    intro K hK
    rw [if_pos (by rfl)]
    go_simp
    first | with_reducible refine hK _ _ ?_ | refine hK _ _ ?_
    clear hK K
    (try simp only [Act.put, nA, nB, nC])
    with_reducible refine wpList_plain rfl ?_
    intro K hK
    go_simp
    first | with_reducible refine hK _ _ ?_ | refine hK _ _ ?_
    clear hK K
    (try simp only [Act.put, nA, nB, nC])
    go_upto_region 7 with fail
    with_reducible refine wp_region_list ?_
    with_reducible refine wpList_plain rfl ?_
    intro K hK
    go_simp
    first | with_reducible refine hK _ _ ?_ | refine hK _ _ ?_
    clear hK K
    (try simp only [Act.put, nA, nB, nC])
    with_reducible refine wpList_plain rfl ?_
    intro K hK
    go_simp
    first | with_reducible refine hK _ _ ?_ | refine hK _ _ ?_
    clear hK K
    (try simp only [Act.put, nA, nB, nC])
    with_reducible refine wpList_plain rfl ?_
    intro K hK
    go_simp
    refine (Head_no w2 (N + 1) p b lv wd L size T2 hw (by rw [HLl.out]; omega)).mono ?_; rintro e w3 ⟨rfl, b3⟩
    first | with_reducible refine hK _ _ ?_ | refine hK _ _ ?_
    clear hK K
    (try simp only [Act.put, nA, nB, nC])
    have B3 := Lib.hid (B2.out.trans (b3.mono (by omega)))
    have hz3 := b3.size
    clear b3 T2 B2 E2
    with_reducible refine wpList_plain rfl ?_
    intro K hK
    go_simp
    first | with_reducible refine hK _ _ ?_ | refine hK _ _ ?_
    clear hK K
    (try simp only [Act.put, nA, nB, nC])
    with_reducible refine wpList_plain rfl ?_
    intro K hK
    go_simp
    first | with_reducible refine hK _ _ ?_ | refine hK _ _ ?_
    clear hK K
    (try simp only [Act.put, nA, nB, nC])
    with_reducible refine wpList_plain rfl ?_
    intro K hK
    go_simp
    first | with_reducible refine hK _ _ ?_ | refine hK _ _ ?_
    clear hK K
    (try simp only [Act.put, nA, nB, nC])
    obtain ⟨x, hx⟩ : ∃ x, w3.heap.size = x := ⟨_, rfl⟩
    refine wpList_allocH rfl rfl x hx ?_
    intro w4 e4 b4 z4
    (try simp only [Act.put, nA, nB, nC])
    refine wpList_storeH rfl _ _ rfl x rfl 0 0 zeros32 zeros32 rfl rfl e4 rfl ?_
    intro w5 e5 k5 b5 z5
    (try simp only [Act.put, nA, nB, nC])
    with_reducible refine wpList_plain rfl ?_
    intro K hK
    go_simp
    first | with_reducible refine hK _ _ ?_ | refine hK _ _ ?_
    clear hK K
    (try simp only [Act.put, nA, nB, nC])
    have B5 := Lib.hid (B3.out.trans ((b4.trans b5).mono (by omega)))
    clear e4 b4 z4 e5 k5 b5 z5 B3
    have ds : decide (size ≤ T) = false := decide_eq_false (by omega)
    have ds2 : decide ((size : Int) ≤ (T : Int)) = false := decide_eq_false (by omega)
    have wT := IntWalk.u64_in (T : Int) (by omega)
    go_upto_region 8 with fail
    with_reducible refine wp_region_list ?_
    with_reducible refine wpList_plain rfl ?_
    intro K hK
    go_simp
    first | with_reducible refine hK _ _ ?_ | refine hK _ _ ?_
    clear hK K
    (try simp only [Act.put, nA, nB, nC])
    with_reducible refine wpList_plain rfl ?_
    intro K hK
    go_simp
    first | with_reducible refine hK _ _ ?_ | refine hK _ _ ?_
    clear hK K
    (try simp only [Act.put, nA, nB, nC])
    with_reducible refine wpList_plain rfl ?_
    intro K hK
    go_simp
    first | with_reducible refine hK _ _ ?_ | refine hK _ _ ?_
    clear hK K
    (try simp only [Act.put, nA, nB, nC])
    with_reducible refine wpList_step ?_
    intro K hK
    rw [if_neg (Bool.eq_false_iff.1 (by rfl))]
    first | with_reducible refine hK _ _ ?_ | refine hK _ _ ?_
    clear hK K
    (try simp only [Act.put, nA, nB, nC])
    with_reducible refine wpList_step ?_
    intro K hK
    rw [if_neg (Bool.eq_false_iff.1 (by rfl))]
    first | with_reducible refine hK _ _ ?_ | refine hK _ _ ?_
    clear hK K
    (try simp only [Act.put, nA, nB, nC])
    with_reducible refine wpList_step ?_
    intro K hK
    rw [if_neg (Bool.eq_false_iff.1 (by rfl))]
    first | with_reducible refine hK _ _ ?_ | refine hK _ _ ?_
    clear hK K
    (try simp only [Act.put, nA, nB, nC])
    with_reducible refine wpList_step ?_
    intro K hK
    rw [if_neg (Bool.eq_false_iff.1 (by rfl))]
    first | with_reducible refine hK _ _ ?_ | refine hK _ _ ?_
    clear hK K
    (try simp only [Act.put, nA, nB, nC])
    with_reducible refine wpList_step ?_
    intro K hK
    rw [if_neg (Bool.eq_false_iff.1 (by rfl))]
    first | with_reducible refine hK _ _ ?_ | refine hK _ _ ?_
    clear hK K
    (try simp only [Act.put, nA, nB, nC])
    with_reducible refine wpList_step ?_
    intro K hK
    rw [if_neg (Bool.eq_false_iff.1 (by rfl))]
    first | with_reducible refine hK _ _ ?_ | refine hK _ _ ?_
    clear hK K
    (try simp only [Act.put, nA, nB, nC])
    with_reducible refine wpList_step ?_
    intro K hK
    rw [if_neg (Bool.eq_false_iff.1 (by rfl))]
    first | with_reducible refine hK _ _ ?_ | refine hK _ _ ?_
    clear hK K
    (try simp only [Act.put, nA, nB, nC])
    with_reducible refine wpList_plain rfl ?_
    intro K hK
    go_simp
    first | with_reducible refine hK _ _ ?_ | refine hK _ _ ?_
    clear hK K
    (try simp only [Act.put, nA, nB, nC])
    go_wp2_with fail
    go_ret
    exact ⟨rfl, B5.out⟩
  case pos =>
    have hSDl := spanD_length wd L 0 size HLa.out (by rw [HLl.out]; omega)
    have hho : ∀ (hi : i < L.length) (his : i < size), holdsB wd size (spanD wd L 0 size) i L[i] (trailP wd L 0 i size) = true := fun h1 h2 => holds_own wd L i size hw hwd HLf.out h2 (by rw [HLl.out]; omega) (by omega) h1
    obtain ⟨SD, hSD⟩ : ∃ SD, spanD wd L 0 size = SD := ⟨_, rfl⟩
    rw [hSD] at hSDl hho
    have HSD := Lib.hid hSD
    have HSDl := Lib.hid hSDl
    have HHo := Lib.hid hho
    obtain ⟨H1, hH1⟩ : ∃ x, holdsB wd size SD i leaf q = x := ⟨_, rfl⟩
    have HH1 := Lib.hid hH1
    clear hSD hSDl hH1 hho
    cases H1
    case false =>
      clear HHo
      go_enter Try.func10, Try.ntmps10
      go_upto_region 0 with fail
      with_reducible refine wp_region_list ?_
      refine wpList_boxD rfl _ rfl leaf rfl N HN.out ?_
      intro w0 e0 b0 z0
      (try simp only [Act.put, nA, nB, nC])
      with_reducible refine wpList_plain rfl ?_
      intro K hK
      go_simp
      first | with_reducible refine hK _ _ ?_ | refine hK _ _ ?_
      clear hK K
      (try simp only [Act.put, nA, nB, nC])
      have E0 := Lib.hid e0
      have B0 := Lib.hid b0
      have Hv0 := hv.out.below' (by rw [HN.out]; exact b0)
      have HT0 := Lib.hid (HT.out.below' (by rw [HN.out]; exact b0))
      clear e0 b0
      go_upto_region 3 with (go_at_call 22; refine (refRight_any _ _).mono ?_; rintro e w' ⟨rfl, rfl⟩; rw [HWb.out])
      with_reducible refine wp_region_list ?_
      with_reducible refine wpList_plain rfl ?_
      intro K hK
      go_simp
      first | with_reducible refine hK _ _ ?_ | refine hK _ _ ?_
      clear hK K
      (try simp only [Act.put, nA, nB, nC])
      with_reducible refine wpList_plain rfl ?_
      intro K hK
      go_simp
      refine (HFew.out _ Hv0).mono ?_; rintro e w' ⟨rfl, rfl⟩
      first | with_reducible refine hK _ _ ?_ | refine hK _ _ ?_
      clear hK K
      (try simp only [Act.put, nA, nB, nC])
      clear Hv0
      with_reducible refine wpList_plain rfl ?_
      intro K hK
      go_simp
      first | with_reducible refine hK _ _ ?_ | refine hK _ _ ?_
      clear hK K
      (try simp only [Act.put, nA, nB, nC])
      go_upto_region 4 with fail
      with_reducible refine wp_region_list ?_
      with_reducible refine wpList_plain rfl ?_
      intro K hK
      go_simp
      first | with_reducible refine hK _ _ ?_ | refine hK _ _ ?_
      clear hK K
      (try simp only [Act.put, nA, nB, nC])
      with_reducible refine wpList_plain rfl ?_
      intro K hK
      go_simp
      first | with_reducible refine hK _ _ ?_ | refine hK _ _ ?_
      clear hK K
      (try simp only [Act.put, nA, nB, nC])
      with_reducible refine wpList_plain rfl ?_
      intro K hK
      go_simp
      refine (New_gen wd _ t w0 hw hwd HT0 (by rw [HTl.out]; omega) HTs).mono ?_; rintro e w1 ⟨p, b, lv, rfl, l1, b1⟩; rw [HL.out, z0] at l1
      first | with_reducible refine hK _ _ ?_ | refine hK _ _ ?_
      clear hK K
      (try simp only [Act.put, nA, nB, nC])
      have T1 : Hid (LogB w1 (N + 1) p b lv wd L) := l1
      have E1 := Lib.hid (heap_below E0.out b1 (by omega))
      have B1 := Lib.hid (B0.out.trans (b1.mono (by omega)))
      have hz1 := b1.size
      clear l1 b1 E0 B0 HT0
      with_reducible refine wpList_plain rfl ?_
      intro K hK
      go_simp
      first | with_reducible refine hK _ _ ?_ | refine hK _ _ ?_
      clear hK K
      (try simp only [Act.put, nA, nB, nC])
      with_reducible refine wpList_plain rfl ?_
      intro K hK
      go_simp
      first | with_reducible refine hK _ _ ?_ | refine hK _ _ ?_
      clear hK K
      (try simp only [Act.put, nA, nB, nC])
      with_reducible refine wpList_plain rfl ?_
      intro K hK
      go_simp
      first | with_reducible refine hK _ _ ?_ | refine hK _ _ ?_
      clear hK K
      (try simp only [Act.put, nA, nB, nC])
      with_reducible refine wpList_plain rfl ?_
      intro K hK
      go_simp
      first | with_reducible refine hK _ _ ?_ | refine hK _ _ ?_
      clear hK K
      (try simp only [Act.put, nA, nB, nC])
      with_reducible refine wpList_plain rfl ?_
      intro K hK
      go_simp
      first | with_reducible refine hK _ _ ?_ | refine hK _ _ ?_
      clear hK K
      (try simp only [Act.put, nA, nB, nC])
      go_upto_region 5 with fail
      with_reducible refine wp_region_list ?_
      with_reducible refine wpList_plain rfl ?_
      intro K hK
      go_simp
      first | with_reducible refine hK _ _ ?_ | refine hK _ _ ?_
      clear hK K
      (try simp only [Act.put, nA, nB, nC])
      with_reducible refine wpList_plain rfl ?_
      intro K hK
      go_simp
      first | with_reducible refine hK _ _ ?_ | refine hK _ _ ?_
      clear hK K
      (try simp only [Act.put, nA, nB, nC])
      with_reducible refine wpList_plain rfl ?_
      intro K hK
      go_simp
      first | with_reducible refine hK _ _ ?_ | refine hK _ _ ?_
      clear hK K
      (try simp only [Act.put, nA, nB, nC])
      with_reducible refine wpList_step ?_
      intro K hK
      rw [if_pos (by rfl)]
      go_simp
      first | with_reducible refine hK _ _ ?_ | refine hK _ _ ?_
      clear hK K
      (try simp only [Act.put, nA, nB, nC])
      with_reducible refine wpList_step ?_
      intro K hK
      rw [if_pos (by rfl)]
      go_simp
      first | with_reducible refine hK _ _ ?_ | refine hK _ _ ?_
      clear hK K
      (try simp only [Act.put, nA, nB, nC])
      with_reducible refine wpList_plain rfl ?_
      intro K hK
      go_simp
      first | with_reducible refine hK _ _ ?_ | refine hK _ _ ?_
      clear hK K
      (try simp only [Act.put, nA, nB, nC])
      with_reducible refine wpList_plain rfl ?_
      intro K hK
      go_simp
      first | with_reducible refine hK _ _ ?_ | refine hK _ _ ?_
      clear hK K
      (try simp only [Act.put, nA, nB, nC])
      with_reducible refine wpList_step ?_
      intro K hK
      rw [if_pos (by rfl)]
      go_simp
      refine (lives_any _).mono ?_; rintro e w2 ⟨rfl, b2⟩
      first | with_reducible refine hK _ _ ?_ | refine hK _ _ ?_
      clear hK K
      (try simp only [Act.put, nA, nB, nC])
      have T2 := Lib.hid (T1.out.below b2)
      have E2 := Lib.hid (heap_below E1.out b2 (by omega))
      have B2 := Lib.hid (B1.out.trans (b2.mono (by omega)))
      have hz2 := b2.size
      clear b2 T1 B1 E1
      with_reducible refine wpList_step ?_
      intro K hK
      rw [if_pos (by rfl)]
      go_simp
      first | with_reducible refine hK _ _ ?_ | refine hK _ _ ?_
      clear hK K
      (try simp only [Act.put, nA, nB, nC])
      with_reducible refine wpList_plain rfl ?_
      intro K hK
      go_simp
      first | with_reducible refine hK _ _ ?_ | refine hK _ _ ?_
      clear hK K
      (try simp only [Act.put, nA, nB, nC])
      go_upto_region 7 with fail
      with_reducible refine wp_region_list ?_
      with_reducible refine wpList_plain rfl ?_
      intro K hK
      go_simp
      first | with_reducible refine hK _ _ ?_ | refine hK _ _ ?_
      clear hK K
      (try simp only [Act.put, nA, nB, nC])
      with_reducible refine wpList_plain rfl ?_
      intro K hK
      go_simp
      first | with_reducible refine hK _ _ ?_ | refine hK _ _ ?_
      clear hK K
      (try simp only [Act.put, nA, nB, nC])
      with_reducible refine wpList_plain rfl ?_
      intro K hK
      go_simp
      refine (Head_yes w2 (N + 1) p b lv wd L size T2 hw hwd (by rw [HLl.out]; omega)).mono ?_; rintro e w3 ⟨rfl, l3, m3⟩; rw [HSD.out]
      first | with_reducible refine hK _ _ ?_ | refine hK _ _ ?_
      clear hK K
      (try simp only [Act.put, nA, nB, nC])
      have hbN := T2.out.hb
      have T3 := Lib.hid l3
      have E3 := Lib.hid (m3.heap E2.out (by omega))
      have B3 := Lib.hid (B2.out.trans (m3.below (n := N) (fun k hk e => by omega) (by omega)))
      have hz3 := m3.size
      clear l3 m3 T2 B2 E2
      with_reducible refine wpList_plain rfl ?_
      intro K hK
      go_simp
      first | with_reducible refine hK _ _ ?_ | refine hK _ _ ?_
      clear hK K
      (try simp only [Act.put, nA, nB, nC])
      with_reducible refine wpList_plain rfl ?_
      intro K hK
      go_simp
      first | with_reducible refine hK _ _ ?_ | refine hK _ _ ?_
      clear hK K
      (try simp only [Act.put, nA, nB, nC])
      with_reducible refine wpList_plain rfl ?_
      intro K hK
      go_simp
      first | with_reducible refine hK _ _ ?_ | refine hK _ _ ?_
      clear hK K
      (try simp only [Act.put, nA, nB, nC])
      obtain ⟨x, hx⟩ : ∃ x, w3.heap.size = x := ⟨_, rfl⟩
      refine wpList_allocH rfl rfl x hx ?_
      intro w4 e4 b4 z4
      (try simp only [Act.put, nA, nB, nC])
      refine wpList_storeH rfl _ _ rfl x rfl 0 size zeros32 SD rfl HSDl.out e4 rfl ?_
      intro w5 e5 k5 b5 z5
      (try simp only [Act.put, nA, nB, nC])
      with_reducible refine wpList_plain rfl ?_
      intro K hK
      go_simp
      first | with_reducible refine hK _ _ ?_ | refine hK _ _ ?_
      clear hK K
      (try simp only [Act.put, nA, nB, nC])
      have b35 : Below x w3 w5 := b4.trans b5
      have T5 := Lib.hid (T3.out.below (by rw [hx]; exact b35))
      have E5 := Lib.hid (heap_below E3.out b35 (by omega))
      have B5 := Lib.hid (B3.out.trans (b35.mono (by omega)))
      have K5 := Lib.hid e5
      have hpx : p < x := by have := T3.out.lt; omega
      have hbx : b < x := by have := T3.out.ltb; omega
      have hNx : N + 1 ≤ x := by omega
      have z5' : w5.heap.size = x + 1 := by omega
      clear e4 b4 z4 e5 k5 b5 b35 T3 E3 B3 z5
      have Q5 := Lib.hid ((hq.out.low B5.out (by rw [HN.out]; exact Nat.le_refl _)).mono (lim' := w5.heap.size) (by omega))
      go_upto_region 8 with fail
      with_reducible refine wp_region_list ?_
      with_reducible refine wpList_plain rfl ?_
      intro K hK
      go_simp
      first | with_reducible refine hK _ _ ?_ | refine hK _ _ ?_
      clear hK K
      (try simp only [Act.put, nA, nB, nC])
      with_reducible refine wpList_plain rfl ?_
      intro K hK
      go_simp
      first | with_reducible refine hK _ _ ?_ | refine hK _ _ ?_
      clear hK K
      (try simp only [Act.put, nA, nB, nC])
      with_reducible refine wpList_plain rfl ?_
      intro K hK
      go_simp
      first | with_reducible refine hK _ _ ?_ | refine hK _ _ ?_
      clear hK K
      (try simp only [Act.put, nA, nB, nC])
      with_reducible refine wpList_step ?_
      intro K hK
      rw [if_pos (by rfl)]
      go_simp
      first | with_reducible refine hK _ _ ?_ | refine hK _ _ ?_
      clear hK K
      (try simp only [Act.put, nA, nB, nC])
      refine wpList_loadHG rfl _ rfl x rfl size SD HSDl.out K5.out ?_
      (try simp only [Act.put, nA, nB, nC])
      with_reducible refine wpList_step ?_
      intro K hK
      rw [if_pos (by rfl)]
      go_simp
      first | with_reducible refine hK _ _ ?_ | refine hK _ _ ?_
      clear hK K
      (try simp only [Act.put, nA, nB, nC])
      refine wpList_loadDg rfl _ rfl N rfl leaf hll.out E5.out ?_
      (try simp only [Act.put, nA, nB, nC])
      with_reducible refine wpList_step ?_
      intro K hK
      rw [if_pos (by rfl)]
      go_simp
      first | with_reducible refine hK _ _ ?_ | refine hK _ _ ?_
      clear hK K
      (try simp only [Act.put, nA, nB, nC])
      with_reducible refine wpList_step ?_
      intro K hK
      rw [if_pos (by rfl)]
      go_simp
      refine (Holds_any wd size i SD leaf _ q w5 HSDl hll Q5 hs hi).mono ?_; rintro e w6 ⟨rfl, b6⟩; rw [HH1.out]
      first | with_reducible refine hK _ _ ?_ | refine hK _ _ ?_
      clear hK K
      (try simp only [Act.put, nA, nB, nC])
      have T6 := Lib.hid (T5.out.below b6)
      have E6 := Lib.hid (heap_below E5.out b6 (by omega))
      have K6 := Lib.hid (heap_below K5.out b6 (by omega))
      have B6 := Lib.hid (B5.out.trans (b6.mono (by omega)))
      have hz6 := b6.size
      clear b6 T5 E5 K5 B5 Q5
      with_reducible refine wpList_step ?_
      intro K hK
      rw [if_pos (by rfl)]
      go_simp
      first | with_reducible refine hK _ _ ?_ | refine hK _ _ ?_
      clear hK K
      (try simp only [Act.put, nA, nB, nC])
      with_reducible refine wpList_plain rfl ?_
      intro K hK
      go_simp
      first | with_reducible refine hK _ _ ?_ | refine hK _ _ ?_
      clear hK K
      (try simp only [Act.put, nA, nB, nC])
      have ds : decide (size ≤ T) = true := decide_eq_true (by omega)
      have ds2 : decide ((size : Int) ≤ (T : Int)) = true := decide_eq_true (by omega)
      have wT := IntWalk.u64_in (T : Int) (by omega)
      clear T6 E6 K6
      go_wp2_with fail
      go_ret
      exact ⟨rfl, B6.out⟩
    case true =>
      obtain ⟨wd9, he9, h91, h92, hlf, hqf, his, hss, hok2, h93⟩ := holds_climb HH1.out
      clear hlf hqf hok2 h93 h91 h92 he9
      have hiL : i < L.length := by rw [HLl.out]; omega
      have hho := HHo.out hiL his
      have hTsh := trail_short wd L 5 size 0 i (by omega)
      obtain ⟨D, hD⟩ : ∃ D, L[i] = D := ⟨_, rfl⟩
      have hDl : D.length = 32 := by rw [← hD]; exact HLa.out _ (List.getElem_mem hiL)
      obtain ⟨TR, hTR⟩ : ∃ TR, trailP wd L 0 i size = TR := ⟨_, rfl⟩
      rw [hTR] at hTsh hho
      rw [hD] at hho
      have HDi := Lib.hid hD
      have HDl := Lib.hid hDl
      have HTR := Lib.hid hTR
      have HHw := Lib.hid hho
      have HTRl : Hid (TR.length ≤ 9223372036854775807) := by show _ ≤ _; omega
      have HTa : Hid (All32 TR) := by rw [← HTR.out]; exact trail_all wd L HLa.out size 0 i (by rw [HLl.out]; omega)
      obtain ⟨Q, hQ⟩ : ∃ Q, (D == leaf) = Q := ⟨_, rfl⟩
      have HQ := Lib.hid hQ
      clear hD hDl hTR hTsh hho hQ HHo
      cases Q
      case true =>
        go_enter Try.func10, Try.ntmps10
        go_upto_region 0 with fail
        with_reducible refine wp_region_list ?_
        refine wpList_boxD rfl _ rfl leaf rfl N HN.out ?_
        intro w0 e0 b0 z0
        (try simp only [Act.put, nA, nB, nC])
        with_reducible refine wpList_plain rfl ?_
        intro K hK
        go_simp
        first | with_reducible refine hK _ _ ?_ | refine hK _ _ ?_
        clear hK K
        (try simp only [Act.put, nA, nB, nC])
        have E0 := Lib.hid e0
        have B0 := Lib.hid b0
        have Hv0 := hv.out.below' (by rw [HN.out]; exact b0)
        have HT0 := Lib.hid (HT.out.below' (by rw [HN.out]; exact b0))
        clear e0 b0
        go_upto_region 3 with (go_at_call 22; refine (refRight_any _ _).mono ?_; rintro e w' ⟨rfl, rfl⟩; rw [HWb.out])
        with_reducible refine wp_region_list ?_
        with_reducible refine wpList_plain rfl ?_
        intro K hK
        go_simp
        first | with_reducible refine hK _ _ ?_ | refine hK _ _ ?_
        clear hK K
        (try simp only [Act.put, nA, nB, nC])
        with_reducible refine wpList_plain rfl ?_
        intro K hK
        go_simp
        refine (HFew.out _ Hv0).mono ?_; rintro e w' ⟨rfl, rfl⟩
        first | with_reducible refine hK _ _ ?_ | refine hK _ _ ?_
        clear hK K
        (try simp only [Act.put, nA, nB, nC])
        clear Hv0
        with_reducible refine wpList_plain rfl ?_
        intro K hK
        go_simp
        first | with_reducible refine hK _ _ ?_ | refine hK _ _ ?_
        clear hK K
        (try simp only [Act.put, nA, nB, nC])
        go_upto_region 4 with fail
        with_reducible refine wp_region_list ?_
        with_reducible refine wpList_plain rfl ?_
        intro K hK
        go_simp
        first | with_reducible refine hK _ _ ?_ | refine hK _ _ ?_
        clear hK K
        (try simp only [Act.put, nA, nB, nC])
        with_reducible refine wpList_plain rfl ?_
        intro K hK
        go_simp
        first | with_reducible refine hK _ _ ?_ | refine hK _ _ ?_
        clear hK K
        (try simp only [Act.put, nA, nB, nC])
        with_reducible refine wpList_plain rfl ?_
        intro K hK
        go_simp
        refine (New_gen wd _ t w0 hw hwd HT0 (by rw [HTl.out]; omega) HTs).mono ?_; rintro e w1 ⟨p, b, lv, rfl, l1, b1⟩; rw [HL.out, z0] at l1
        first | with_reducible refine hK _ _ ?_ | refine hK _ _ ?_
        clear hK K
        (try simp only [Act.put, nA, nB, nC])
        have T1 : Hid (LogB w1 (N + 1) p b lv wd L) := l1
        have E1 := Lib.hid (heap_below E0.out b1 (by omega))
        have B1 := Lib.hid (B0.out.trans (b1.mono (by omega)))
        have hz1 := b1.size
        clear l1 b1 E0 B0 HT0
        with_reducible refine wpList_plain rfl ?_
        intro K hK
        go_simp
        first | with_reducible refine hK _ _ ?_ | refine hK _ _ ?_
        clear hK K
        (try simp only [Act.put, nA, nB, nC])
        with_reducible refine wpList_plain rfl ?_
        intro K hK
        go_simp
        first | with_reducible refine hK _ _ ?_ | refine hK _ _ ?_
        clear hK K
        (try simp only [Act.put, nA, nB, nC])
        with_reducible refine wpList_plain rfl ?_
        intro K hK
        go_simp
        first | with_reducible refine hK _ _ ?_ | refine hK _ _ ?_
        clear hK K
        (try simp only [Act.put, nA, nB, nC])
        with_reducible refine wpList_plain rfl ?_
        intro K hK
        go_simp
        first | with_reducible refine hK _ _ ?_ | refine hK _ _ ?_
        clear hK K
        (try simp only [Act.put, nA, nB, nC])
        with_reducible refine wpList_plain rfl ?_
        intro K hK
        go_simp
        first | with_reducible refine hK _ _ ?_ | refine hK _ _ ?_
        clear hK K
        (try simp only [Act.put, nA, nB, nC])
        go_upto_region 5 with fail
        with_reducible refine wp_region_list ?_
        with_reducible refine wpList_plain rfl ?_
        intro K hK
        go_simp
        first | with_reducible refine hK _ _ ?_ | refine hK _ _ ?_
        clear hK K
        (try simp only [Act.put, nA, nB, nC])
        with_reducible refine wpList_plain rfl ?_
        intro K hK
        go_simp
        first | with_reducible refine hK _ _ ?_ | refine hK _ _ ?_
        clear hK K
        (try simp only [Act.put, nA, nB, nC])
        with_reducible refine wpList_plain rfl ?_
        intro K hK
        go_simp
        first | with_reducible refine hK _ _ ?_ | refine hK _ _ ?_
        clear hK K
        (try simp only [Act.put, nA, nB, nC])
        with_reducible refine wpList_step ?_
        intro K hK
        rw [if_pos (by rfl)]
        go_simp
        first | with_reducible refine hK _ _ ?_ | refine hK _ _ ?_
        clear hK K
        (try simp only [Act.put, nA, nB, nC])
        with_reducible refine wpList_step ?_
        intro K hK
        rw [if_pos (by rfl)]
        go_simp
        first | with_reducible refine hK _ _ ?_ | refine hK _ _ ?_
        clear hK K
        (try simp only [Act.put, nA, nB, nC])
        with_reducible refine wpList_plain rfl ?_
        intro K hK
        go_simp
        first | with_reducible refine hK _ _ ?_ | refine hK _ _ ?_
        clear hK K
        (try simp only [Act.put, nA, nB, nC])
        with_reducible refine wpList_plain rfl ?_
        intro K hK
        go_simp
        first | with_reducible refine hK _ _ ?_ | refine hK _ _ ?_
        clear hK K
        (try simp only [Act.put, nA, nB, nC])
        with_reducible refine wpList_step ?_
        intro K hK
        rw [if_pos (by rfl)]
        go_simp
        refine (lives_any _).mono ?_; rintro e w2 ⟨rfl, b2⟩
        first | with_reducible refine hK _ _ ?_ | refine hK _ _ ?_
        clear hK K
        (try simp only [Act.put, nA, nB, nC])
        have T2 := Lib.hid (T1.out.below b2)
        have E2 := Lib.hid (heap_below E1.out b2 (by omega))
        have B2 := Lib.hid (B1.out.trans (b2.mono (by omega)))
        have hz2 := b2.size
        clear b2 T1 B1 E1
        with_reducible refine wpList_step ?_
        intro K hK
        rw [if_pos (by rfl)]
        go_simp
        first | with_reducible refine hK _ _ ?_ | refine hK _ _ ?_
        clear hK K
        (try simp only [Act.put, nA, nB, nC])
        with_reducible refine wpList_plain rfl ?_
        intro K hK
        go_simp
        first | with_reducible refine hK _ _ ?_ | refine hK _ _ ?_
        clear hK K
        (try simp only [Act.put, nA, nB, nC])
        go_upto_region 7 with fail
        with_reducible refine wp_region_list ?_
        with_reducible refine wpList_plain rfl ?_
        intro K hK
        go_simp
        first | with_reducible refine hK _ _ ?_ | refine hK _ _ ?_
        clear hK K
        (try simp only [Act.put, nA, nB, nC])
        with_reducible refine wpList_plain rfl ?_
        intro K hK
        go_simp
        first | with_reducible refine hK _ _ ?_ | refine hK _ _ ?_
        clear hK K
        (try simp only [Act.put, nA, nB, nC])
        with_reducible refine wpList_plain rfl ?_
        intro K hK
        go_simp
        refine (Head_yes w2 (N + 1) p b lv wd L size T2 hw hwd (by rw [HLl.out]; omega)).mono ?_; rintro e w3 ⟨rfl, l3, m3⟩; rw [HSD.out]
        first | with_reducible refine hK _ _ ?_ | refine hK _ _ ?_
        clear hK K
        (try simp only [Act.put, nA, nB, nC])
        have hbN := T2.out.hb
        have T3 := Lib.hid l3
        have E3 := Lib.hid (m3.heap E2.out (by omega))
        have B3 := Lib.hid (B2.out.trans (m3.below (n := N) (fun k hk e => by omega) (by omega)))
        have hz3 := m3.size
        clear l3 m3 T2 B2 E2
        with_reducible refine wpList_plain rfl ?_
        intro K hK
        go_simp
        first | with_reducible refine hK _ _ ?_ | refine hK _ _ ?_
        clear hK K
        (try simp only [Act.put, nA, nB, nC])
        with_reducible refine wpList_plain rfl ?_
        intro K hK
        go_simp
        first | with_reducible refine hK _ _ ?_ | refine hK _ _ ?_
        clear hK K
        (try simp only [Act.put, nA, nB, nC])
        with_reducible refine wpList_plain rfl ?_
        intro K hK
        go_simp
        first | with_reducible refine hK _ _ ?_ | refine hK _ _ ?_
        clear hK K
        (try simp only [Act.put, nA, nB, nC])
        obtain ⟨x, hx⟩ : ∃ x, w3.heap.size = x := ⟨_, rfl⟩
        refine wpList_allocH rfl rfl x hx ?_
        intro w4 e4 b4 z4
        (try simp only [Act.put, nA, nB, nC])
        refine wpList_storeH rfl _ _ rfl x rfl 0 size zeros32 SD rfl HSDl.out e4 rfl ?_
        intro w5 e5 k5 b5 z5
        (try simp only [Act.put, nA, nB, nC])
        with_reducible refine wpList_plain rfl ?_
        intro K hK
        go_simp
        first | with_reducible refine hK _ _ ?_ | refine hK _ _ ?_
        clear hK K
        (try simp only [Act.put, nA, nB, nC])
        have b35 : Below x w3 w5 := b4.trans b5
        have T5 := Lib.hid (T3.out.below (by rw [hx]; exact b35))
        have E5 := Lib.hid (heap_below E3.out b35 (by omega))
        have B5 := Lib.hid (B3.out.trans (b35.mono (by omega)))
        have K5 := Lib.hid e5
        have hpx : p < x := by have := T3.out.lt; omega
        have hbx : b < x := by have := T3.out.ltb; omega
        have hNx : N + 1 ≤ x := by omega
        have z5' : w5.heap.size = x + 1 := by omega
        clear e4 b4 z4 e5 k5 b5 b35 T3 E3 B3 z5
        have Q5 := Lib.hid ((hq.out.low B5.out (by rw [HN.out]; exact Nat.le_refl _)).mono (lim' := w5.heap.size) (by omega))
        go_upto_region 8 with fail
        with_reducible refine wp_region_list ?_
        with_reducible refine wpList_plain rfl ?_
        intro K hK
        go_simp
        first | with_reducible refine hK _ _ ?_ | refine hK _ _ ?_
        clear hK K
        (try simp only [Act.put, nA, nB, nC])
        with_reducible refine wpList_plain rfl ?_
        intro K hK
        go_simp
        first | with_reducible refine hK _ _ ?_ | refine hK _ _ ?_
        clear hK K
        (try simp only [Act.put, nA, nB, nC])
        with_reducible refine wpList_plain rfl ?_
        intro K hK
        go_simp
        first | with_reducible refine hK _ _ ?_ | refine hK _ _ ?_
        clear hK K
        (try simp only [Act.put, nA, nB, nC])
        with_reducible refine wpList_step ?_
        intro K hK
        rw [if_pos (by rfl)]
        go_simp
        first | with_reducible refine hK _ _ ?_ | refine hK _ _ ?_
        clear hK K
        (try simp only [Act.put, nA, nB, nC])
        refine wpList_loadHG rfl _ rfl x rfl size SD HSDl.out K5.out ?_
        (try simp only [Act.put, nA, nB, nC])
        with_reducible refine wpList_step ?_
        intro K hK
        rw [if_pos (by rfl)]
        go_simp
        first | with_reducible refine hK _ _ ?_ | refine hK _ _ ?_
        clear hK K
        (try simp only [Act.put, nA, nB, nC])
        refine wpList_loadDg rfl _ rfl N rfl leaf hll.out E5.out ?_
        (try simp only [Act.put, nA, nB, nC])
        with_reducible refine wpList_step ?_
        intro K hK
        rw [if_pos (by rfl)]
        go_simp
        first | with_reducible refine hK _ _ ?_ | refine hK _ _ ?_
        clear hK K
        (try simp only [Act.put, nA, nB, nC])
        with_reducible refine wpList_step ?_
        intro K hK
        rw [if_pos (by rfl)]
        go_simp
        refine (Holds_any wd size i SD leaf _ q w5 HSDl hll Q5 hs hi).mono ?_; rintro e w6 ⟨rfl, b6⟩; rw [HH1.out]
        first | with_reducible refine hK _ _ ?_ | refine hK _ _ ?_
        clear hK K
        (try simp only [Act.put, nA, nB, nC])
        have T6 := Lib.hid (T5.out.below b6)
        have E6 := Lib.hid (heap_below E5.out b6 (by omega))
        have K6 := Lib.hid (heap_below K5.out b6 (by omega))
        have B6 := Lib.hid (B5.out.trans (b6.mono (by omega)))
        have hz6 := b6.size
        clear b6 T5 E5 K5 B5 Q5
        with_reducible refine wpList_step ?_
        intro K hK
        rw [if_pos (by rfl)]
        go_simp
        first | with_reducible refine hK _ _ ?_ | refine hK _ _ ?_
        clear hK K
        (try simp only [Act.put, nA, nB, nC])
        with_reducible refine wpList_plain rfl ?_
        intro K hK
        go_simp
        first | with_reducible refine hK _ _ ?_ | refine hK _ _ ?_
        clear hK K
        (try simp only [Act.put, nA, nB, nC])
        go_upto_region 10 with fail
        with_reducible refine wp_region_list ?_
        with_reducible refine wpList_plain rfl ?_
        intro K hK
        go_simp
        first | with_reducible refine hK _ _ ?_ | refine hK _ _ ?_
        clear hK K
        (try simp only [Act.put, nA, nB, nC])
        with_reducible refine wpList_plain rfl ?_
        intro K hK
        go_simp
        first | with_reducible refine hK _ _ ?_ | refine hK _ _ ?_
        clear hK K
        (try simp only [Act.put, nA, nB, nC])
        with_reducible refine wpList_plain rfl ?_
        intro K hK
        go_simp
        refine (LLeaf_yes w6 (N + 1) p b lv wd L i T6 hw hiL).mono ?_; rintro e w7 ⟨rfl, b7⟩; rw [HDi.out]
        first | with_reducible refine hK _ _ ?_ | refine hK _ _ ?_
        clear hK K
        (try simp only [Act.put, nA, nB, nC])
        have T7 := Lib.hid (T6.out.below b7)
        have E7 := Lib.hid (heap_below E6.out b7 (by omega))
        have K7 := Lib.hid (heap_below K6.out b7 (by omega))
        have B7 := Lib.hid (B6.out.trans (b7.mono (by omega)))
        have hz7 := b7.size
        clear b7 T6 E6 K6 B6
        with_reducible refine wpList_plain rfl ?_
        intro K hK
        go_simp
        first | with_reducible refine hK _ _ ?_ | refine hK _ _ ?_
        clear hK K
        (try simp only [Act.put, nA, nB, nC])
        with_reducible refine wpList_plain rfl ?_
        intro K hK
        go_simp
        first | with_reducible refine hK _ _ ?_ | refine hK _ _ ?_
        clear hK K
        (try simp only [Act.put, nA, nB, nC])
        with_reducible refine wpList_plain rfl ?_
        intro K hK
        go_simp
        first | with_reducible refine hK _ _ ?_ | refine hK _ _ ?_
        clear hK K
        (try simp only [Act.put, nA, nB, nC])
        obtain ⟨y, hy⟩ : ∃ y, w7.heap.size = y := ⟨_, rfl⟩
        have hxy : x < y := by omega
        refine wpList_allocD rfl rfl y hy ?_
        intro w8 e8 b8 z8
        (try simp only [Act.put, nA, nB, nC])
        refine wpList_storeD rfl _ _ rfl y rfl zeros32 D rfl HDl.out rfl e8 ?_
        intro w9 e9 b9 k9 z9
        (try simp only [Act.put, nA, nB, nC])
        with_reducible refine wpList_plain rfl ?_
        intro K hK
        go_simp
        first | with_reducible refine hK _ _ ?_ | refine hK _ _ ?_
        clear hK K
        (try simp only [Act.put, nA, nB, nC])
        have b79 : Below y w7 w9 := b8.trans b9
        have T9 := Lib.hid (T7.out.below (by rw [hy]; exact b79))
        have E9 := Lib.hid (heap_below E7.out b79 (by omega))
        have K9 := Lib.hid (heap_below K7.out b79 (by omega))
        have Y9 := Lib.hid e9
        have B9 := Lib.hid (B7.out.trans (b79.mono (by omega)))
        have z9' : w9.heap.size = y + 1 := by omega
        clear e8 b8 z8 e9 b9 k9 b79 T7 E7 K7 B7 z9
        go_upto_region 11 with fail
        with_reducible refine wp_region_list ?_
        with_reducible refine wpList_plain rfl ?_
        intro K hK
        go_simp
        first | with_reducible refine hK _ _ ?_ | refine hK _ _ ?_
        clear hK K
        (try simp only [Act.put, nA, nB, nC])
        with_reducible refine wpList_plain rfl ?_
        intro K hK
        go_simp
        first | with_reducible refine hK _ _ ?_ | refine hK _ _ ?_
        clear hK K
        (try simp only [Act.put, nA, nB, nC])
        with_reducible refine wpList_plain rfl ?_
        intro K hK
        go_simp
        first | with_reducible refine hK _ _ ?_ | refine hK _ _ ?_
        clear hK K
        (try simp only [Act.put, nA, nB, nC])
        with_reducible refine wpList_plain rfl ?_
        intro K hK
        go_simp
        refine (Trail_yes w9 (N + 1) p b lv wd L i size T9 hw hwd (by rw [HLl.out]; omega) his).mono ?_; rintro e wa ⟨tv, rfl, oa, aa, la, ma⟩
        first | with_reducible refine hK _ _ ?_ | refine hK _ _ ?_
        clear hK K
        (try simp only [Act.put, nA, nB, nC])
        rw [HTR.out] at oa aa
        have hbN9 := T9.out.hb
        have Ea := Lib.hid (ma.heap E9.out (by omega))
        have Ka := Lib.hid (ma.heap K9.out (by omega))
        have Ya := Lib.hid (ma.heap Y9.out (by omega))
        have Ba := Lib.hid (B9.out.trans (ma.below (n := N) (fun k hk e => by omega) (by omega)))
        have hza := ma.size
        have hTl2 : TR.length ≤ 9223372036854775807 := HTRl.out
        have dr := Lib.hid (oa.drow aa hTl2)
        clear oa aa la ma T9 E9 K9 Y9 B9 hTl2
        with_reducible refine wpList_plain rfl ?_
        intro K hK
        go_simp
        first | with_reducible refine hK _ _ ?_ | refine hK _ _ ?_
        clear hK K
        (try simp only [Act.put, nA, nB, nC])
        with_reducible refine wpList_plain rfl ?_
        intro K hK
        go_simp
        first | with_reducible refine hK _ _ ?_ | refine hK _ _ ?_
        clear hK K
        (try simp only [Act.put, nA, nB, nC])
        with_reducible refine wpList_plain rfl ?_
        intro K hK
        go_simp
        first | with_reducible refine hK _ _ ?_ | refine hK _ _ ?_
        clear hK K
        (try simp only [Act.put, nA, nB, nC])
        with_reducible refine wpList_plain rfl ?_
        intro K hK
        go_simp
        first | with_reducible refine hK _ _ ?_ | refine hK _ _ ?_
        clear hK K
        (try simp only [Act.put, nA, nB, nC])
        with_reducible refine wpList_plain rfl ?_
        intro K hK
        go_simp
        first | with_reducible refine hK _ _ ?_ | refine hK _ _ ?_
        clear hK K
        (try simp only [Act.put, nA, nB, nC])
        go_upto_region 12 with fail
        with_reducible refine wp_region_list ?_
        with_reducible refine wpList_plain rfl ?_
        intro K hK
        go_simp
        first | with_reducible refine hK _ _ ?_ | refine hK _ _ ?_
        clear hK K
        (try simp only [Act.put, nA, nB, nC])
        with_reducible refine wpList_plain rfl ?_
        intro K hK
        go_simp
        first | with_reducible refine hK _ _ ?_ | refine hK _ _ ?_
        clear hK K
        (try simp only [Act.put, nA, nB, nC])
        with_reducible refine wpList_plain rfl ?_
        intro K hK
        go_simp
        first | with_reducible refine hK _ _ ?_ | refine hK _ _ ?_
        clear hK K
        (try simp only [Act.put, nA, nB, nC])
        with_reducible refine wpList_step ?_
        intro K hK
        rw [if_pos (by rfl)]
        go_simp
        first | with_reducible refine hK _ _ ?_ | refine hK _ _ ?_
        clear hK K
        (try simp only [Act.put, nA, nB, nC])
        with_reducible refine wpList_step ?_
        intro K hK
        rw [if_pos (by rfl)]
        go_simp
        first | with_reducible refine hK _ _ ?_ | refine hK _ _ ?_
        clear hK K
        (try simp only [Act.put, nA, nB, nC])
        with_reducible refine wpList_plain rfl ?_
        intro K hK
        go_simp
        first | with_reducible refine hK _ _ ?_ | refine hK _ _ ?_
        clear hK K
        (try simp only [Act.put, nA, nB, nC])
        have hqd := eqD D leaf HDl.out hll.out
        rw [HQ.out] at hqd
        have hqg := eqGuardD D leaf
        go_upto_region 14 with fail
        with_reducible refine wp_region_list ?_
        refine wpList_loadD rfl _ rfl y rfl D HDl.out Ya.out ?_
        (try simp only [Act.put, nA, nB, nC])
        refine wpList_loadD rfl _ rfl N rfl leaf hll.out Ea.out ?_
        (try simp only [Act.put, nA, nB, nC])
        with_reducible refine wpList_plain rfl ?_
        intro K hK
        go_simp
        first | with_reducible refine hK _ _ ?_ | refine hK _ _ ?_
        clear hK K
        (try simp only [Act.put, nA, nB, nC])
        clear hqd hqg
        clear dr Ea Ka Ya
        go_wp2_with fail
        go_ret
        exact ⟨rfl, Ba.out⟩
      case false =>
        obtain ⟨⟨X, Y, E⟩, hR⟩ := unS_any wd size SD i D leaf TR q HDl.out hll.out HTa.out hq.out.1
        have hub : unB wd size SD i D leaf TR q = true := by unfold unB; rw [HQ.out, HHw.out, HH1.out]; rfl
        have hE0 : E = 0 ∧ (X.toList == Y.toList) = false := by
          rcases hR with ⟨e, _⟩ | ⟨_, wd', k, xa, xb, ya, yb, ew, hy, e⟩
          · rw [hub] at e; cases e
          · simp only [Prod.mk.injEq] at e
            obtain ⟨rfl, rfl, rfl⟩ := e
            have e2 : wd' = wd := by omega
            subst e2
            exact ⟨rfl, hy.ne.text hy.w1 hy.w2⟩
        obtain ⟨rfl, hne⟩ := hE0
        have hu := fun (w : World) (vp : Value) (h1 : Hid (DRow w w.heap.size vp TR)) (h2 : Hid (DRow w w.heap.size vq q)) => Unlike_any (wd : Int) size i SD D leaf vp vq TR q w (X, Y, 0) hR HSDl HDl hll h1 h2 hs hi
        have HU := Lib.hid hu
        clear hu
        have HNe := Lib.hid hne
        clear hR hub hne
        go_enter Try.func10, Try.ntmps10
        go_upto_region 0 with fail
        with_reducible refine wp_region_list ?_
        refine wpList_boxD rfl _ rfl leaf rfl N HN.out ?_
        intro w0 e0 b0 z0
        (try simp only [Act.put, nA, nB, nC])
        with_reducible refine wpList_plain rfl ?_
        intro K hK
        go_simp
        first | with_reducible refine hK _ _ ?_ | refine hK _ _ ?_
        clear hK K
        (try simp only [Act.put, nA, nB, nC])
        have E0 := Lib.hid e0
        have B0 := Lib.hid b0
        have Hv0 := hv.out.below' (by rw [HN.out]; exact b0)
        have HT0 := Lib.hid (HT.out.below' (by rw [HN.out]; exact b0))
        clear e0 b0
        go_upto_region 3 with (go_at_call 22; refine (refRight_any _ _).mono ?_; rintro e w' ⟨rfl, rfl⟩; rw [HWb.out])
        with_reducible refine wp_region_list ?_
        with_reducible refine wpList_plain rfl ?_
        intro K hK
        go_simp
        first | with_reducible refine hK _ _ ?_ | refine hK _ _ ?_
        clear hK K
        (try simp only [Act.put, nA, nB, nC])
        with_reducible refine wpList_plain rfl ?_
        intro K hK
        go_simp
        refine (HFew.out _ Hv0).mono ?_; rintro e w' ⟨rfl, rfl⟩
        first | with_reducible refine hK _ _ ?_ | refine hK _ _ ?_
        clear hK K
        (try simp only [Act.put, nA, nB, nC])
        clear Hv0
        with_reducible refine wpList_plain rfl ?_
        intro K hK
        go_simp
        first | with_reducible refine hK _ _ ?_ | refine hK _ _ ?_
        clear hK K
        (try simp only [Act.put, nA, nB, nC])
        go_upto_region 4 with fail
        with_reducible refine wp_region_list ?_
        with_reducible refine wpList_plain rfl ?_
        intro K hK
        go_simp
        first | with_reducible refine hK _ _ ?_ | refine hK _ _ ?_
        clear hK K
        (try simp only [Act.put, nA, nB, nC])
        with_reducible refine wpList_plain rfl ?_
        intro K hK
        go_simp
        first | with_reducible refine hK _ _ ?_ | refine hK _ _ ?_
        clear hK K
        (try simp only [Act.put, nA, nB, nC])
        with_reducible refine wpList_plain rfl ?_
        intro K hK
        go_simp
        refine (New_gen wd _ t w0 hw hwd HT0 (by rw [HTl.out]; omega) HTs).mono ?_; rintro e w1 ⟨p, b, lv, rfl, l1, b1⟩; rw [HL.out, z0] at l1
        first | with_reducible refine hK _ _ ?_ | refine hK _ _ ?_
        clear hK K
        (try simp only [Act.put, nA, nB, nC])
        have T1 : Hid (LogB w1 (N + 1) p b lv wd L) := l1
        have E1 := Lib.hid (heap_below E0.out b1 (by omega))
        have B1 := Lib.hid (B0.out.trans (b1.mono (by omega)))
        have hz1 := b1.size
        clear l1 b1 E0 B0 HT0
        with_reducible refine wpList_plain rfl ?_
        intro K hK
        go_simp
        first | with_reducible refine hK _ _ ?_ | refine hK _ _ ?_
        clear hK K
        (try simp only [Act.put, nA, nB, nC])
        with_reducible refine wpList_plain rfl ?_
        intro K hK
        go_simp
        first | with_reducible refine hK _ _ ?_ | refine hK _ _ ?_
        clear hK K
        (try simp only [Act.put, nA, nB, nC])
        with_reducible refine wpList_plain rfl ?_
        intro K hK
        go_simp
        first | with_reducible refine hK _ _ ?_ | refine hK _ _ ?_
        clear hK K
        (try simp only [Act.put, nA, nB, nC])
        with_reducible refine wpList_plain rfl ?_
        intro K hK
        go_simp
        first | with_reducible refine hK _ _ ?_ | refine hK _ _ ?_
        clear hK K
        (try simp only [Act.put, nA, nB, nC])
        with_reducible refine wpList_plain rfl ?_
        intro K hK
        go_simp
        first | with_reducible refine hK _ _ ?_ | refine hK _ _ ?_
        clear hK K
        (try simp only [Act.put, nA, nB, nC])
        go_upto_region 5 with fail
        with_reducible refine wp_region_list ?_
        with_reducible refine wpList_plain rfl ?_
        intro K hK
        go_simp
        first | with_reducible refine hK _ _ ?_ | refine hK _ _ ?_
        clear hK K
        (try simp only [Act.put, nA, nB, nC])
        with_reducible refine wpList_plain rfl ?_
        intro K hK
        go_simp
        first | with_reducible refine hK _ _ ?_ | refine hK _ _ ?_
        clear hK K
        (try simp only [Act.put, nA, nB, nC])
        with_reducible refine wpList_plain rfl ?_
        intro K hK
        go_simp
        first | with_reducible refine hK _ _ ?_ | refine hK _ _ ?_
        clear hK K
        (try simp only [Act.put, nA, nB, nC])
        with_reducible refine wpList_step ?_
        intro K hK
        rw [if_pos (by rfl)]
        go_simp
        first | with_reducible refine hK _ _ ?_ | refine hK _ _ ?_
        clear hK K
        (try simp only [Act.put, nA, nB, nC])
        with_reducible refine wpList_step ?_
        intro K hK
        rw [if_pos (by rfl)]
        go_simp
        first | with_reducible refine hK _ _ ?_ | refine hK _ _ ?_
        clear hK K
        (try simp only [Act.put, nA, nB, nC])
        with_reducible refine wpList_plain rfl ?_
        intro K hK
        go_simp
        first | with_reducible refine hK _ _ ?_ | refine hK _ _ ?_
        clear hK K
        (try simp only [Act.put, nA, nB, nC])
        with_reducible refine wpList_plain rfl ?_
        intro K hK
        go_simp
        first | with_reducible refine hK _ _ ?_ | refine hK _ _ ?_
        clear hK K
        (try simp only [Act.put, nA, nB, nC])
        with_reducible refine wpList_step ?_
        intro K hK
        rw [if_pos (by rfl)]
        go_simp
        refine (lives_any _).mono ?_; rintro e w2 ⟨rfl, b2⟩
        first | with_reducible refine hK _ _ ?_ | refine hK _ _ ?_
        clear hK K
        (try simp only [Act.put, nA, nB, nC])
        have T2 := Lib.hid (T1.out.below b2)
        have E2 := Lib.hid (heap_below E1.out b2 (by omega))
        have B2 := Lib.hid (B1.out.trans (b2.mono (by omega)))
        have hz2 := b2.size
        clear b2 T1 B1 E1
        with_reducible refine wpList_step ?_
        intro K hK
        rw [if_pos (by rfl)]
        go_simp
        first | with_reducible refine hK _ _ ?_ | refine hK _ _ ?_
        clear hK K
        (try simp only [Act.put, nA, nB, nC])
        with_reducible refine wpList_plain rfl ?_
        intro K hK
        go_simp
        first | with_reducible refine hK _ _ ?_ | refine hK _ _ ?_
        clear hK K
        (try simp only [Act.put, nA, nB, nC])
        go_upto_region 7 with fail
        with_reducible refine wp_region_list ?_
        with_reducible refine wpList_plain rfl ?_
        intro K hK
        go_simp
        first | with_reducible refine hK _ _ ?_ | refine hK _ _ ?_
        clear hK K
        (try simp only [Act.put, nA, nB, nC])
        with_reducible refine wpList_plain rfl ?_
        intro K hK
        go_simp
        first | with_reducible refine hK _ _ ?_ | refine hK _ _ ?_
        clear hK K
        (try simp only [Act.put, nA, nB, nC])
        with_reducible refine wpList_plain rfl ?_
        intro K hK
        go_simp
        refine (Head_yes w2 (N + 1) p b lv wd L size T2 hw hwd (by rw [HLl.out]; omega)).mono ?_; rintro e w3 ⟨rfl, l3, m3⟩; rw [HSD.out]
        first | with_reducible refine hK _ _ ?_ | refine hK _ _ ?_
        clear hK K
        (try simp only [Act.put, nA, nB, nC])
        have hbN := T2.out.hb
        have T3 := Lib.hid l3
        have E3 := Lib.hid (m3.heap E2.out (by omega))
        have B3 := Lib.hid (B2.out.trans (m3.below (n := N) (fun k hk e => by omega) (by omega)))
        have hz3 := m3.size
        clear l3 m3 T2 B2 E2
        with_reducible refine wpList_plain rfl ?_
        intro K hK
        go_simp
        first | with_reducible refine hK _ _ ?_ | refine hK _ _ ?_
        clear hK K
        (try simp only [Act.put, nA, nB, nC])
        with_reducible refine wpList_plain rfl ?_
        intro K hK
        go_simp
        first | with_reducible refine hK _ _ ?_ | refine hK _ _ ?_
        clear hK K
        (try simp only [Act.put, nA, nB, nC])
        with_reducible refine wpList_plain rfl ?_
        intro K hK
        go_simp
        first | with_reducible refine hK _ _ ?_ | refine hK _ _ ?_
        clear hK K
        (try simp only [Act.put, nA, nB, nC])
        obtain ⟨x, hx⟩ : ∃ x, w3.heap.size = x := ⟨_, rfl⟩
        refine wpList_allocH rfl rfl x hx ?_
        intro w4 e4 b4 z4
        (try simp only [Act.put, nA, nB, nC])
        refine wpList_storeH rfl _ _ rfl x rfl 0 size zeros32 SD rfl HSDl.out e4 rfl ?_
        intro w5 e5 k5 b5 z5
        (try simp only [Act.put, nA, nB, nC])
        with_reducible refine wpList_plain rfl ?_
        intro K hK
        go_simp
        first | with_reducible refine hK _ _ ?_ | refine hK _ _ ?_
        clear hK K
        (try simp only [Act.put, nA, nB, nC])
        have b35 : Below x w3 w5 := b4.trans b5
        have T5 := Lib.hid (T3.out.below (by rw [hx]; exact b35))
        have E5 := Lib.hid (heap_below E3.out b35 (by omega))
        have B5 := Lib.hid (B3.out.trans (b35.mono (by omega)))
        have K5 := Lib.hid e5
        have hpx : p < x := by have := T3.out.lt; omega
        have hbx : b < x := by have := T3.out.ltb; omega
        have hNx : N + 1 ≤ x := by omega
        have z5' : w5.heap.size = x + 1 := by omega
        clear e4 b4 z4 e5 k5 b5 b35 T3 E3 B3 z5
        have Q5 := Lib.hid ((hq.out.low B5.out (by rw [HN.out]; exact Nat.le_refl _)).mono (lim' := w5.heap.size) (by omega))
        go_upto_region 8 with fail
        with_reducible refine wp_region_list ?_
        with_reducible refine wpList_plain rfl ?_
        intro K hK
        go_simp
        first | with_reducible refine hK _ _ ?_ | refine hK _ _ ?_
        clear hK K
        (try simp only [Act.put, nA, nB, nC])
        with_reducible refine wpList_plain rfl ?_
        intro K hK
        go_simp
        first | with_reducible refine hK _ _ ?_ | refine hK _ _ ?_
        clear hK K
        (try simp only [Act.put, nA, nB, nC])
        with_reducible refine wpList_plain rfl ?_
        intro K hK
        go_simp
        first | with_reducible refine hK _ _ ?_ | refine hK _ _ ?_
        clear hK K
        (try simp only [Act.put, nA, nB, nC])
        with_reducible refine wpList_step ?_
        intro K hK
        rw [if_pos (by rfl)]
        go_simp
        first | with_reducible refine hK _ _ ?_ | refine hK _ _ ?_
        clear hK K
        (try simp only [Act.put, nA, nB, nC])
        refine wpList_loadHG rfl _ rfl x rfl size SD HSDl.out K5.out ?_
        (try simp only [Act.put, nA, nB, nC])
        with_reducible refine wpList_step ?_
        intro K hK
        rw [if_pos (by rfl)]
        go_simp
        first | with_reducible refine hK _ _ ?_ | refine hK _ _ ?_
        clear hK K
        (try simp only [Act.put, nA, nB, nC])
        refine wpList_loadDg rfl _ rfl N rfl leaf hll.out E5.out ?_
        (try simp only [Act.put, nA, nB, nC])
        with_reducible refine wpList_step ?_
        intro K hK
        rw [if_pos (by rfl)]
        go_simp
        first | with_reducible refine hK _ _ ?_ | refine hK _ _ ?_
        clear hK K
        (try simp only [Act.put, nA, nB, nC])
        with_reducible refine wpList_step ?_
        intro K hK
        rw [if_pos (by rfl)]
        go_simp
        refine (Holds_any wd size i SD leaf _ q w5 HSDl hll Q5 hs hi).mono ?_; rintro e w6 ⟨rfl, b6⟩; rw [HH1.out]
        first | with_reducible refine hK _ _ ?_ | refine hK _ _ ?_
        clear hK K
        (try simp only [Act.put, nA, nB, nC])
        have T6 := Lib.hid (T5.out.below b6)
        have E6 := Lib.hid (heap_below E5.out b6 (by omega))
        have K6 := Lib.hid (heap_below K5.out b6 (by omega))
        have B6 := Lib.hid (B5.out.trans (b6.mono (by omega)))
        have hz6 := b6.size
        clear b6 T5 E5 K5 B5 Q5
        with_reducible refine wpList_step ?_
        intro K hK
        rw [if_pos (by rfl)]
        go_simp
        first | with_reducible refine hK _ _ ?_ | refine hK _ _ ?_
        clear hK K
        (try simp only [Act.put, nA, nB, nC])
        with_reducible refine wpList_plain rfl ?_
        intro K hK
        go_simp
        first | with_reducible refine hK _ _ ?_ | refine hK _ _ ?_
        clear hK K
        (try simp only [Act.put, nA, nB, nC])
        go_upto_region 10 with fail
        with_reducible refine wp_region_list ?_
        with_reducible refine wpList_plain rfl ?_
        intro K hK
        go_simp
        first | with_reducible refine hK _ _ ?_ | refine hK _ _ ?_
        clear hK K
        (try simp only [Act.put, nA, nB, nC])
        with_reducible refine wpList_plain rfl ?_
        intro K hK
        go_simp
        first | with_reducible refine hK _ _ ?_ | refine hK _ _ ?_
        clear hK K
        (try simp only [Act.put, nA, nB, nC])
        with_reducible refine wpList_plain rfl ?_
        intro K hK
        go_simp
        refine (LLeaf_yes w6 (N + 1) p b lv wd L i T6 hw hiL).mono ?_; rintro e w7 ⟨rfl, b7⟩; rw [HDi.out]
        first | with_reducible refine hK _ _ ?_ | refine hK _ _ ?_
        clear hK K
        (try simp only [Act.put, nA, nB, nC])
        have T7 := Lib.hid (T6.out.below b7)
        have E7 := Lib.hid (heap_below E6.out b7 (by omega))
        have K7 := Lib.hid (heap_below K6.out b7 (by omega))
        have B7 := Lib.hid (B6.out.trans (b7.mono (by omega)))
        have hz7 := b7.size
        clear b7 T6 E6 K6 B6
        with_reducible refine wpList_plain rfl ?_
        intro K hK
        go_simp
        first | with_reducible refine hK _ _ ?_ | refine hK _ _ ?_
        clear hK K
        (try simp only [Act.put, nA, nB, nC])
        with_reducible refine wpList_plain rfl ?_
        intro K hK
        go_simp
        first | with_reducible refine hK _ _ ?_ | refine hK _ _ ?_
        clear hK K
        (try simp only [Act.put, nA, nB, nC])
        with_reducible refine wpList_plain rfl ?_
        intro K hK
        go_simp
        first | with_reducible refine hK _ _ ?_ | refine hK _ _ ?_
        clear hK K
        (try simp only [Act.put, nA, nB, nC])
        obtain ⟨y, hy⟩ : ∃ y, w7.heap.size = y := ⟨_, rfl⟩
        have hxy : x < y := by omega
        refine wpList_allocD rfl rfl y hy ?_
        intro w8 e8 b8 z8
        (try simp only [Act.put, nA, nB, nC])
        refine wpList_storeD rfl _ _ rfl y rfl zeros32 D rfl HDl.out rfl e8 ?_
        intro w9 e9 b9 k9 z9
        (try simp only [Act.put, nA, nB, nC])
        with_reducible refine wpList_plain rfl ?_
        intro K hK
        go_simp
        first | with_reducible refine hK _ _ ?_ | refine hK _ _ ?_
        clear hK K
        (try simp only [Act.put, nA, nB, nC])
        have b79 : Below y w7 w9 := b8.trans b9
        have T9 := Lib.hid (T7.out.below (by rw [hy]; exact b79))
        have E9 := Lib.hid (heap_below E7.out b79 (by omega))
        have K9 := Lib.hid (heap_below K7.out b79 (by omega))
        have Y9 := Lib.hid e9
        have B9 := Lib.hid (B7.out.trans (b79.mono (by omega)))
        have z9' : w9.heap.size = y + 1 := by omega
        clear e8 b8 z8 e9 b9 k9 b79 T7 E7 K7 B7 z9
        go_upto_region 11 with fail
        with_reducible refine wp_region_list ?_
        with_reducible refine wpList_plain rfl ?_
        intro K hK
        go_simp
        first | with_reducible refine hK _ _ ?_ | refine hK _ _ ?_
        clear hK K
        (try simp only [Act.put, nA, nB, nC])
        with_reducible refine wpList_plain rfl ?_
        intro K hK
        go_simp
        first | with_reducible refine hK _ _ ?_ | refine hK _ _ ?_
        clear hK K
        (try simp only [Act.put, nA, nB, nC])
        with_reducible refine wpList_plain rfl ?_
        intro K hK
        go_simp
        first | with_reducible refine hK _ _ ?_ | refine hK _ _ ?_
        clear hK K
        (try simp only [Act.put, nA, nB, nC])
        with_reducible refine wpList_plain rfl ?_
        intro K hK
        go_simp
        refine (Trail_yes w9 (N + 1) p b lv wd L i size T9 hw hwd (by rw [HLl.out]; omega) his).mono ?_; rintro e wa ⟨tv, rfl, oa, aa, la, ma⟩
        first | with_reducible refine hK _ _ ?_ | refine hK _ _ ?_
        clear hK K
        (try simp only [Act.put, nA, nB, nC])
        rw [HTR.out] at oa aa
        have hbN9 := T9.out.hb
        have Ea := Lib.hid (ma.heap E9.out (by omega))
        have Ka := Lib.hid (ma.heap K9.out (by omega))
        have Ya := Lib.hid (ma.heap Y9.out (by omega))
        have Ba := Lib.hid (B9.out.trans (ma.below (n := N) (fun k hk e => by omega) (by omega)))
        have hza := ma.size
        have hTl2 : TR.length ≤ 9223372036854775807 := HTRl.out
        have dr := Lib.hid (oa.drow aa hTl2)
        clear oa aa la ma T9 E9 K9 Y9 B9 hTl2
        with_reducible refine wpList_plain rfl ?_
        intro K hK
        go_simp
        first | with_reducible refine hK _ _ ?_ | refine hK _ _ ?_
        clear hK K
        (try simp only [Act.put, nA, nB, nC])
        with_reducible refine wpList_plain rfl ?_
        intro K hK
        go_simp
        first | with_reducible refine hK _ _ ?_ | refine hK _ _ ?_
        clear hK K
        (try simp only [Act.put, nA, nB, nC])
        with_reducible refine wpList_plain rfl ?_
        intro K hK
        go_simp
        first | with_reducible refine hK _ _ ?_ | refine hK _ _ ?_
        clear hK K
        (try simp only [Act.put, nA, nB, nC])
        with_reducible refine wpList_plain rfl ?_
        intro K hK
        go_simp
        first | with_reducible refine hK _ _ ?_ | refine hK _ _ ?_
        clear hK K
        (try simp only [Act.put, nA, nB, nC])
        with_reducible refine wpList_plain rfl ?_
        intro K hK
        go_simp
        first | with_reducible refine hK _ _ ?_ | refine hK _ _ ?_
        clear hK K
        (try simp only [Act.put, nA, nB, nC])
        go_upto_region 12 with fail
        with_reducible refine wp_region_list ?_
        with_reducible refine wpList_plain rfl ?_
        intro K hK
        go_simp
        first | with_reducible refine hK _ _ ?_ | refine hK _ _ ?_
        clear hK K
        (try simp only [Act.put, nA, nB, nC])
        with_reducible refine wpList_plain rfl ?_
        intro K hK
        go_simp
        first | with_reducible refine hK _ _ ?_ | refine hK _ _ ?_
        clear hK K
        (try simp only [Act.put, nA, nB, nC])
        with_reducible refine wpList_plain rfl ?_
        intro K hK
        go_simp
        first | with_reducible refine hK _ _ ?_ | refine hK _ _ ?_
        clear hK K
        (try simp only [Act.put, nA, nB, nC])
        with_reducible refine wpList_step ?_
        intro K hK
        rw [if_pos (by rfl)]
        go_simp
        first | with_reducible refine hK _ _ ?_ | refine hK _ _ ?_
        clear hK K
        (try simp only [Act.put, nA, nB, nC])
        with_reducible refine wpList_step ?_
        intro K hK
        rw [if_pos (by rfl)]
        go_simp
        first | with_reducible refine hK _ _ ?_ | refine hK _ _ ?_
        clear hK K
        (try simp only [Act.put, nA, nB, nC])
        with_reducible refine wpList_plain rfl ?_
        intro K hK
        go_simp
        first | with_reducible refine hK _ _ ?_ | refine hK _ _ ?_
        clear hK K
        (try simp only [Act.put, nA, nB, nC])
        have hqd := eqD D leaf HDl.out hll.out
        rw [HQ.out] at hqd
        have hqg := eqGuardD D leaf
        go_upto_region 14 with fail
        with_reducible refine wp_region_list ?_
        refine wpList_loadD rfl _ rfl y rfl D HDl.out Ya.out ?_
        (try simp only [Act.put, nA, nB, nC])
        refine wpList_loadD rfl _ rfl N rfl leaf hll.out Ea.out ?_
        (try simp only [Act.put, nA, nB, nC])
        with_reducible refine wpList_plain rfl ?_
        intro K hK
        go_simp
        first | with_reducible refine hK _ _ ?_ | refine hK _ _ ?_
        clear hK K
        (try simp only [Act.put, nA, nB, nC])
        clear hqd hqg
        have Qa := Lib.hid ((hq.out.low Ba.out (by rw [HN.out]; exact Nat.le_refl _)).mono (lim' := wa.heap.size) (by omega))
        go_upto_region 16 with fail
        with_reducible refine wp_region_list ?_
        with_reducible refine wpList_plain rfl ?_
        intro K hK
        go_simp
        first | with_reducible refine hK _ _ ?_ | refine hK _ _ ?_
        clear hK K
        (try simp only [Act.put, nA, nB, nC])
        refine wpList_loadH rfl _ rfl x rfl size SD HSDl.out Ka.out ?_
        (try simp only [Act.put, nA, nB, nC])
        with_reducible refine wpList_plain rfl ?_
        intro K hK
        go_simp
        first | with_reducible refine hK _ _ ?_ | refine hK _ _ ?_
        clear hK K
        (try simp only [Act.put, nA, nB, nC])
        refine wpList_loadD rfl _ rfl y rfl D HDl.out Ya.out ?_
        (try simp only [Act.put, nA, nB, nC])
        refine wpList_loadD rfl _ rfl N rfl leaf hll.out Ea.out ?_
        (try simp only [Act.put, nA, nB, nC])
        with_reducible refine wpList_plain rfl ?_
        intro K hK
        go_simp
        first | with_reducible refine hK _ _ ?_ | refine hK _ _ ?_
        clear hK K
        (try simp only [Act.put, nA, nB, nC])
        with_reducible refine wpList_plain rfl ?_
        intro K hK
        go_simp
        first | with_reducible refine hK _ _ ?_ | refine hK _ _ ?_
        clear hK K
        (try simp only [Act.put, nA, nB, nC])
        with_reducible refine wpList_plain rfl ?_
        intro K hK
        go_simp
        refine (HU.out wa _ dr Qa).mono ?_; rintro e wb ⟨rfl, bb⟩; dsimp only
        first | with_reducible refine hK _ _ ?_ | refine hK _ _ ?_
        clear hK K
        (try simp only [Act.put, nA, nB, nC])
        have Bb := Lib.hid (Ba.out.trans (bb.mono (by omega)))
        clear bb Ba dr Qa Ea Ka Ya
        with_reducible refine wpList_plain rfl ?_
        intro K hK
        go_simp
        first | with_reducible refine hK _ _ ?_ | refine hK _ _ ?_
        clear hK K
        (try simp only [Act.put, nA, nB, nC])
        with_reducible refine wpList_plain rfl ?_
        intro K hK
        go_simp
        first | with_reducible refine hK _ _ ?_ | refine hK _ _ ?_
        clear hK K
        (try simp only [Act.put, nA, nB, nC])
        with_reducible refine wpList_plain rfl ?_
        intro K hK
        go_simp
        first | with_reducible refine hK _ _ ?_ | refine hK _ _ ?_
        clear hK K
        (try simp only [Act.put, nA, nB, nC])
        with_reducible refine wpList_plain rfl ?_
        intro K hK
        go_simp
        first | with_reducible refine hK _ _ ?_ | refine hK _ _ ?_
        clear hK K
        (try simp only [Act.put, nA, nB, nC])
        with_reducible refine wpList_plain rfl ?_
        intro K hK
        go_simp
        first | with_reducible refine hK _ _ ?_ | refine hK _ _ ?_
        clear hK K
        (try simp only [Act.put, nA, nB, nC])
        with_reducible refine wpList_plain rfl ?_
        intro K hK
        go_simp
        first | with_reducible refine hK _ _ ?_ | refine hK _ _ ?_
        clear hK K
        (try simp only [Act.put, nA, nB, nC])
        with_reducible refine wpList_plain rfl ?_
        intro K hK
        go_simp
        first | with_reducible refine hK _ _ ?_ | refine hK _ _ ?_
        clear hK K
        (try simp only [Act.put, nA, nB, nC])
        have hne := HNe.out
        go_wp2_with fail
        go_ret
        exact ⟨rfl, Bb.out⟩
end Go.Proofs.Ytihbhpggpnmifaa

namespace Go.Proofs.Ytihbhpggpnmifaa
open Go.RowKit Go.Lib Hw
set_option linter.unusedVariables false

theorem wide_nat' {n : Int} (h : wideB n = true) : ∃ wd : Nat, n = (wd : Int) ∧ 1 ≤ wd ∧ wd ≤ 32 := by
  simp only [wideB, Bool.and_eq_true, decide_eq_true_eq] at h
  exact ⟨n.toNat, by omega, by omega, by omega⟩
theorem RingsSound_walk (v0 v1 v2 v3 v4 v5 : Value) (w : World) (h0 : IsI64 v0) (h1 : IsStrsZ w v1) (h2 : IsU64 v2) (h3 : IsU64 v3) (h4 : IsDg v4) (h5 : IsDgs w v5) :
    Calls Try.prog 10 #[v0, v1, v2, v3, v4, v5] w fun e w' => e = .returned (.bool true) ∧ Below w.heap.size w w' := by
  obtain ⟨n, rfl, _, _⟩ := h0
  obtain ⟨ss, m, c, ad, rfl, hmc, hr, hl, hs⟩ := h1
  obtain ⟨i, rfl, hi⟩ := h2
  obtain ⟨size, rfl, hsz⟩ := h3
  obtain ⟨leaf, rfl, hll⟩ := h4
  obtain ⟨q, hqr, hqn, hql⟩ := h5
  cases hw : wideB n with
  | false => exact Sound_bad n _ _ _ _ leaf w hw
  | true =>
    obtain ⟨wd, rfl, h1, h2⟩ := wide_nat' hw
    have hm : m = ss.length := by
      obtain ⟨_, _, e, _⟩ := hr
      simp only [Value.slice.injEq] at e
      exact e.2.1
    exact Sound_ok wd h1 h2 ad m c ss i size leaf _ q w hr hmc hm (fun s h => by have := hs s h; omega) hi hsz hll hqr
end Go.Proofs.Ytihbhpggpnmifaa

