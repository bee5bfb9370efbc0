/-
 Add and New, whatever block an empty row of texts names.
-/
import Derived.Test.YtihbhpggpnmifaaGX
set_option linter.unusedSimpArgs false
set_option linter.unusedVariables false
namespace Go.Proofs.Ytihbhpggpnmifaa
open Go.RowKit Go.Lib Hw
set_option maxHeartbeats 8000000 in
theorem Add_gen (w : World) (B p b : Nat) (lv : Value) (wd : Nat) (L : List Dg) (v : Value) (ss : List ByteArray) (h : Hid (LogB w B p b lv wd L)) (hw : 1 ≤ wd) (hwd : wd ≤ 32) (hv : Hid (StrRow w v ss)) (hn : L.length + ss.length ≤ 1048576) (hss : Hid (∀ s ∈ ss, s.size ≤ 140737488355300)) (hB : B ≤ w.heap.size)
  (hdis : Hid (0 < ss.length → ∀ k, v.ownBlock = some k → k < w.heap.size ∧ k ≠ p ∧ lv.ownBlock ≠ some k)) :
  Calls Try.prog 26 #[.pointer (some ⟨p, 0, none⟩), v] w (AddPost w B p b lv wd L (ss.map (leafD wd))) := by
 obtain ⟨ad, cap, hlv, _⟩ := h.out.leaves.shape
 obtain ⟨vad, vc, rfl, hvs⟩ := strRow_form hv.out
 clear hvs
 have hlen := h.out.len
 have c1 := h.out.cell1
 have cw := h.out.cell0
 rw [hlv] at c1
 have d1 : decide ((1048576 : Int) - (L.length : Int) < (ss.length : Int)) = false := decide_eq_false (by omega)
 go_enter Try.func26, Try.ntmps26
 go_wp2_with (go_at_call 55; refine (off_log _ B p b _ wd L h hw).mono ?_; rintro e w3 ⟨rfl, rfl⟩)
 clear c1 cw d1
 go_loopw [22] (fun i wr => ∃ (k : Nat) (lvk : Value), k ≤ ss.length ∧ Hid (LogB wr B p b lvk wd (L ++ (ss.take k).map (leafD wd))) ∧ Hid (Mod (fun k => k = p ∨ lv.ownBlock = some k) w wr) ∧ Hid (∀ g, lvk.ownBlock = some g → lv.ownBlock = some g ∨ w.heap.size ≤ g) ∧ i = .int .i64 (k : Int)) (fun i _ => ss.length - (intOf i).toNat)
 case atStart => exact ⟨0, lv, Nat.zero_le _, by simpa using h, Mod.refl _ _, fun g hg => .inl hg, rfl⟩
 case round =>
  obtain ⟨k, lvk, hk, HL, HM, HO, rfl⟩ := hrel
  by_cases hlt : k < ss.length
  ·have dk : decide (k < ss.length) = true := decide_eq_true hlt
   have dk2 : decide ((k : Int) < (ss.length : Int)) = true := decide_eq_true (by omega)
   have ik : (k : Int) < (ss.length : Int) := by omega
   obtain ⟨LK, hLK⟩ : ∃ LK, L ++ (ss.take k).map (leafD wd) = LK := ⟨_, rfl⟩
   have hLKl : LK.length = L.length + k := by rw [← hLK]; simp; omega
   have hnext : L ++ (ss.take (k + 1)).map (leafD wd) = LK ++ [leafD wd ss[k]] := by rw [map_take _ _ _ hlt, ← hLK, List.append_assoc]
   rw [hLK] at HL
   clear hLK
   have hrow := hv.out.mod HM.out (fun g hg hh => by
    have h3 := hdis.out (by omega) g hg
    rcases hh with hh | hh
    ·exact h3.2.1 hh
    ·exact h3.2.2 hh)
   obtain ⟨vad', vc', hvv, hvs⟩ := strRow_form hrow
   obtain ⟨rfl, rfl⟩ : vad = vad' ∧ vc = vc' := by simpa using hvv
   obtain ⟨vb, vo, rfl, hcs⟩ := hvs (by omega)
   have hc := hcs k hlt
   have hsz := hss.out ss[k] (List.getElem_mem hlt)
   obtain ⟨s, hs⟩ : ∃ s, ss[k] = s := ⟨_, rfl⟩
   rw [hs] at hc hsz hnext
   have HN := Lib.hid hnext
   have HLl := Lib.hid hLKl
   clear hcs hvs hvv hs hnext hrow hLKl
   have cw := HL.out.cell0
   go_upto_region 8 with fail
   refine wp_region_list ?_
   iterate 5
    (refine wpList_plain rfl (fun K hK => ?_)); go_simp; refine hK _ _ ?_; clear hK K; try simp only [Act.put,nA,nB,nC]
   refine wpList_plain rfl (fun K hK => ?_)
   go_simp
   refine (Leaf_any wd s wr hw hwd hsz).mono ?_; rintro e w3 ⟨rfl, hb3⟩
   refine hK _ _ ?_
   clear hK K
   try simp only [Act.put,nA,nB,nC]
   obtain ⟨D, hD⟩ : ∃ D, leafD wd s = D := ⟨_, rfl⟩
   have HDl : Hid (List.length D = 32) := by rw [← hD]; exact leafD_length _ _
   have HN' := HN.out
   rw [hD] at HN' ⊢
   clear hD HN
   have HN := Lib.hid HN'
   clear HN'
   iterate 3
    (refine wpList_plain rfl (fun K hK => ?_)); go_simp; refine hK _ _ ?_; clear hK K; try simp only [Act.put,nA,nB,nC]
   refine wpList_allocD rfl rfl w3.heap.size rfl ?_
   intro w4 e4 b4 z4
   try simp only [Act.put,nA,nB,nC]
   refine wpList_storeD rfl _ _ rfl w3.heap.size rfl zeros32 D rfl HDl.out rfl e4 ?_
   intro w5 e5 b5 k5 z5
   try simp only [Act.put,nA,nB,nC]
   have b35 : Below wr.heap.size wr w5 := (hb3.trans (b4.mono hb3.size)).trans (b5.mono hb3.size)
   have hz3 := hb3.size
   have L5 := Lib.hid (HL.out.below b35)
   have M5 : Hid (Mod (fun k => k = p ∨ lv.ownBlock = some k) w w5) := HM.out.then (Mod.of _ b35)
   have D5 := Lib.hid e5
   have hzr := HM.out.size
   have HOw : Hid (∀ g, lvk.ownBlock = some g → g < wr.heap.size) := fun g hg => (HL.out.leaves.lt g hg).2
   have HPz : Hid (p < wr.heap.size) := HL.out.lt
   (refine wpList_plain rfl (fun K hK => ?_)); go_simp; refine hK _ _ ?_; clear hK K; try simp only [Act.put,nA,nB,nC]
   clear hb3 e4 b4 e5 b5 k5 b35 cw HL HM hc
   obtain ⟨x, hx⟩ : ∃ x, w3.heap.size = x := ⟨_, rfl⟩
   rw [hx] at D5 hz3 z4 ⊢
   clear hx
   have c1 := L5.out.cell1
   go_upto_region 9 with fail
   refine wp_region_held_drew (S := fun W => DB W x D) (by kernel_rfl) D5.out (fun hHeld => ?_)
   refine' tQ 0 ⟨some 35, .move (.tmp 0), 40, "rings.go:85", #[], none⟩ rfl (by kernel_rfl) (Or.inl ⟨by rfl, _⟩) _; rotate_left; · (intro s h; (try dsimp only at h); go_simp; try with_reducible rfl)
   try simp only [Act.put,nA,nB,nC]
   refine' tQ 1 ⟨some 36, .move (.tmp 0), 40, "rings.go:85", #[], none⟩ rfl (by kernel_rfl) (Or.inl ⟨by rfl, _⟩) _; rotate_left; · (intro s h; (try dsimp only at h); go_simp; try with_reducible rfl)
   try simp only [Act.put,nA,nB,nC]
   refine' tQ 2 ⟨some 37, .nilCheck (.tmp 36), 0, "rings.go:85", #[⟨1, .data⟩], none⟩ rfl (by kernel_rfl) (Or.inl ⟨by rfl, _⟩) _; rotate_left; · (intro s h; (try dsimp only at h); go_simp; try with_reducible rfl)
   try simp only [Act.put,nA,nB,nC]
   refine' tQ 3 ⟨some 38, .fieldAddr 101 (.tmp 37) 1, 0, "rings.go:85", #[⟨2, .data⟩], none⟩ rfl (by kernel_rfl) (Or.inl ⟨by rfl, _⟩) _; rotate_left; · (intro s h; (try dsimp only at h); go_simp; try with_reducible rfl)
   try simp only [Act.put,nA,nB,nC]
   refine' tQ 5 ⟨some 40, .load 23 (.tmp 7), 23, "rings.go:85", #[], none⟩ rfl (by kernel_rfl) (yieldsIf_loadD (by rfl) _ rfl (x) rfl (D) (HDl.out) (fun W hW => hW)) _
   try simp only [Act.put,nA,nB,nC]
   refine wpAnyH_ready (rs := [4, 6]) (by kernel_rfl) (by simp) ?_
   refine (AllReadyH.cons (o := ⟨some 39, .load 32 (.tmp 38), 32, "rings.go:85", #[⟨3, .data⟩], none⟩) rfl (fun K hK => ?_) (AllReadyH.cons (o := ⟨some 41, .buildSlice 32 1 #[(0, .tmp 40)], 32, "rings.go:85", #[⟨5, .data⟩], none⟩) rfl (fun K hK => ?_) AllReadyH.nil))
   ·go_simp
    refine hK.out _ _ ?_ (fun hHeld => ?_)
    ·exact hHeld
    clear hK K
    try simp only [Act.put,nA,nB,nC]
    refine wpAnyH_ready (rs := [6]) (by kernel_rfl) (by simp) ?_
    refine (AllReadyH.cons (o := ⟨some 41, .buildSlice 32 1 #[(0, .tmp 40)], 32, "rings.go:85", #[⟨5, .data⟩], none⟩) rfl (fun K hK => ?_) AllReadyH.nil)
    set_option maxRecDepth 20000 in
    refine step_of rfl (wp_slice1 _ rfl D HDl.out rfl (x + 1) (z5.trans z4) ?_)
    intro w6 e6 b6 z6
    have b56 : Below w5.heap.size w5 w6 := Below.trans (Below.refl _ _).drew (b6.mono (by omega))
    have L6 := Lib.hid (L5.out.below b56)
    have c6 := L6.out.cell1
    refine hK.out _ _ ?_ (fun hHeld => ?_)
    ·exact heap_below D5.out b56 (by omega)
    clear hK K
    try simp only [Act.put,nA,nB,nC]
    refine wpAnyH_ready (rs := [7]) (by kernel_rfl) (by simp) ?_
    refine AllReadyH.cons (o := ⟨some 42, .call ⟨.builtin .append, #[.tmp 39, .tmp 41], #[32, 32]⟩, 32, "rings.go:85", #[⟨4, .data⟩, ⟨6, .data⟩], none⟩) rfl (fun K hK => ?_) AllReadyH.nil
    (set_option maxRecDepth 20000 in refine step_of rfl (wp_appR w6 D HDl.out _ _ rfl B lvk LK rfl L6.out.leaves L6.out.all (x + 1) 1 rfl e6 (by have := HLl.out; omega) (by omega) ?_); intro g2 cap2 w7 ho7 hg7 hs7; have m7 : Mod (fun k => lvk.ownBlock = some k) w6 w7 := Mod.grown hg7 (fun k e => e); have c7 := heap_cell (m7.heap L6.out.cells L6.out.hlp) (o := 1); have f7 := heap_free (m7.heap L6.out.cells L6.out.hlp) 1)
    refine hK.out _ _ ?_ (fun hHeld => ?_)
    ·exact m7.heap (heap_below D5.out b56 (by omega)) (fun e => by have := HOw.out _ e; omega)
    clear hK K
    try simp only [Act.put,nA,nB,nC]
    refine' tQ 8 ⟨some 43, .nilCheck (.tmp 35), 0, "rings.go:85", #[⟨0, .data⟩, ⟨0, .phase⟩, ⟨1, .phase⟩, ⟨2, .phase⟩, ⟨3, .phase⟩, ⟨4, .phase⟩, ⟨5, .phase⟩, ⟨6, .phase⟩, ⟨7, .phase⟩], none⟩ rfl (by kernel_rfl) (Or.inl ⟨by rfl, _⟩) _; rotate_left; · (intro s h; (try dsimp only at h); go_simp; try with_reducible rfl)
    try simp only [Act.put,nA,nB,nC]
    refine' tQ 9 ⟨some 44, .fieldAddr 101 (.tmp 43) 1, 0, "rings.go:85", #[⟨8, .data⟩, ⟨0, .phase⟩, ⟨1, .phase⟩, ⟨2, .phase⟩, ⟨3, .phase⟩, ⟨4, .phase⟩, ⟨5, .phase⟩, ⟨6, .phase⟩, ⟨7, .phase⟩], none⟩ rfl (by kernel_rfl) (Or.inl ⟨by rfl, _⟩) _; rotate_left; · (intro s h; (try dsimp only at h); go_simp; try with_reducible rfl)
    try simp only [Act.put,nA,nB,nC]
    have hz7 := m7.size
    have hlt5 : w5.heap.size < w6.heap.size := by omega
    have hos : ∀ g, (Value.slice (some ⟨g2, 0, none⟩) (LK.length + 1) cap2).ownBlock = some g → lvk.ownBlock = some g ∨ w6.heap.size ≤ g := fun g hg => by
     obtain rfl : g2 = g := Option.some.inj hg
     rcases hs7 with h1 | h1
     ·exact .inl h1
     ·right; omega
    have T8 := Lib.hid (L6.out.app HDl.out (by have := HLl.out; omega) hg7 ho7 hos)
    have M8 : Hid (Mod (fun k => k = p ∨ lv.ownBlock = some k) w (w7.setCell ⟨p, 1, none⟩ (.slice (some ⟨g2, 0, none⟩) (LK.length + 1) cap2))) :=
     (((M5.out.then (Mod.of _ b56)).trans m7 (fun i hi e => by rcases HO.out _ e with h1 | h1; exact .inr h1; omega))).then (Mod.set (o := 1) w7 (.inl rfl) _)
    have O8 : Hid (∀ g, (Value.slice (some ⟨g2, 0, none⟩) (LK.length + 1) cap2).ownBlock = some g → lv.ownBlock = some g ∨ w.heap.size ≤ g) := fun g hg => by
     rcases hos g hg with h1 | h1
     ·exact HO.out g h1
     ·right; omega
    have D8 := heap_setOther (a := ⟨p, 1, none⟩) (m7.heap (heap_below D5.out b56 (by omega)) (fun e => by have := HOw.out _ e; omega)) (by show x ≠ p; have := HPz.out; omega) (.slice (some ⟨g2, 0, none⟩) (LK.length + 1) cap2)
    refine wpAnyH_ready (rs := [10]) (by kernel_rfl) (by simp) ?_
    refine AllReadyH.cons (o := ⟨none, .store 32 (.tmp 44) (.tmp 42), 0, "rings.go:85", #[⟨9, .data⟩, ⟨7, .data⟩, ⟨7, .chain⟩, ⟨0, .phase⟩, ⟨1, .phase⟩, ⟨2, .phase⟩, ⟨3, .phase⟩, ⟨4, .phase⟩, ⟨5, .phase⟩, ⟨6, .phase⟩, ⟨7, .phase⟩], none⟩) rfl (fun K hK => ?_) AllReadyH.nil
    go_simp
    refine hK.out _ _ ?_ (fun hHeld => ?_)
    ·exact D8
    clear hK K
    try simp only [Act.put,nA,nB,nC]
    refine wpAnyH_done (by kernel_rfl) ?_ _
    rw [← HN.out] at T8
    clear hHeld D8 m7 hg7 ho7 hs7 hos c7 f7 c6 L6 L5 M5 D5 e6 b6 b56 c1
    set_option maxRecDepth 5000 in
    go_wp2_with fail
    exact ⟨⟨k + 1, _, by omega, T8, M8, O8, by go_num⟩, by simp [intOf]; omega⟩
   ·set_option maxRecDepth 20000 in
    refine step_of rfl (wp_slice1 _ rfl D HDl.out rfl (x + 1) (z5.trans z4) ?_)
    intro w6 e6 b6 z6
    have b56 : Below w5.heap.size w5 w6 := Below.trans (Below.refl _ _).drew (b6.mono (by omega))
    have L6 := Lib.hid (L5.out.below b56)
    have c6 := L6.out.cell1
    refine hK.out _ _ ?_ (fun hHeld => ?_)
    ·exact heap_below D5.out b56 (by omega)
    clear hK K
    try simp only [Act.put,nA,nB,nC]
    refine wpAnyH_ready (rs := [4]) (by kernel_rfl) (by simp) ?_
    refine (AllReadyH.cons (o := ⟨some 39, .load 32 (.tmp 38), 32, "rings.go:85", #[⟨3, .data⟩], none⟩) rfl (fun K hK => ?_) AllReadyH.nil)
    go_simp
    refine hK.out _ _ ?_ (fun hHeld => ?_)
    ·exact hHeld
    clear hK K
    try simp only [Act.put,nA,nB,nC]
    refine wpAnyH_ready (rs := [7]) (by kernel_rfl) (by simp) ?_
    refine AllReadyH.cons (o := ⟨some 42, .call ⟨.builtin .append, #[.tmp 39, .tmp 41], #[32, 32]⟩, 32, "rings.go:85", #[⟨4, .data⟩, ⟨6, .data⟩], none⟩) rfl (fun K hK => ?_) AllReadyH.nil
    (set_option maxRecDepth 20000 in refine step_of rfl (wp_appR w6 D HDl.out _ _ rfl B lvk LK rfl L6.out.leaves L6.out.all (x + 1) 1 rfl e6 (by have := HLl.out; omega) (by omega) ?_); intro g2 cap2 w7 ho7 hg7 hs7; have m7 : Mod (fun k => lvk.ownBlock = some k) w6 w7 := Mod.grown hg7 (fun k e => e); have c7 := heap_cell (m7.heap L6.out.cells L6.out.hlp) (o := 1); have f7 := heap_free (m7.heap L6.out.cells L6.out.hlp) 1)
    refine hK.out _ _ ?_ (fun hHeld => ?_)
    ·exact m7.heap (heap_below D5.out b56 (by omega)) (fun e => by have := HOw.out _ e; omega)
    clear hK K
    try simp only [Act.put,nA,nB,nC]
    refine' tQ 8 ⟨some 43, .nilCheck (.tmp 35), 0, "rings.go:85", #[⟨0, .data⟩, ⟨0, .phase⟩, ⟨1, .phase⟩, ⟨2, .phase⟩, ⟨3, .phase⟩, ⟨4, .phase⟩, ⟨5, .phase⟩, ⟨6, .phase⟩, ⟨7, .phase⟩], none⟩ rfl (by kernel_rfl) (Or.inl ⟨by rfl, _⟩) _; rotate_left; · (intro s h; (try dsimp only at h); go_simp; try with_reducible rfl)
    try simp only [Act.put,nA,nB,nC]
    refine' tQ 9 ⟨some 44, .fieldAddr 101 (.tmp 43) 1, 0, "rings.go:85", #[⟨8, .data⟩, ⟨0, .phase⟩, ⟨1, .phase⟩, ⟨2, .phase⟩, ⟨3, .phase⟩, ⟨4, .phase⟩, ⟨5, .phase⟩, ⟨6, .phase⟩, ⟨7, .phase⟩], none⟩ rfl (by kernel_rfl) (Or.inl ⟨by rfl, _⟩) _; rotate_left; · (intro s h; (try dsimp only at h); go_simp; try with_reducible rfl)
    try simp only [Act.put,nA,nB,nC]
    have hz7 := m7.size
    have hlt5 : w5.heap.size < w6.heap.size := by omega
    have hos : ∀ g, (Value.slice (some ⟨g2, 0, none⟩) (LK.length + 1) cap2).ownBlock = some g → lvk.ownBlock = some g ∨ w6.heap.size ≤ g := fun g hg => by
     obtain rfl : g2 = g := Option.some.inj hg
     rcases hs7 with h1 | h1
     ·exact .inl h1
     ·right; omega
    have T8 := Lib.hid (L6.out.app HDl.out (by have := HLl.out; omega) hg7 ho7 hos)
    have M8 : Hid (Mod (fun k => k = p ∨ lv.ownBlock = some k) w (w7.setCell ⟨p, 1, none⟩ (.slice (some ⟨g2, 0, none⟩) (LK.length + 1) cap2))) :=
     (((M5.out.then (Mod.of _ b56)).trans m7 (fun i hi e => by rcases HO.out _ e with h1 | h1; exact .inr h1; omega))).then (Mod.set (o := 1) w7 (.inl rfl) _)
    have O8 : Hid (∀ g, (Value.slice (some ⟨g2, 0, none⟩) (LK.length + 1) cap2).ownBlock = some g → lv.ownBlock = some g ∨ w.heap.size ≤ g) := fun g hg => by
     rcases hos g hg with h1 | h1
     ·exact HO.out g h1
     ·right; omega
    have D8 := heap_setOther (a := ⟨p, 1, none⟩) (m7.heap (heap_below D5.out b56 (by omega)) (fun e => by have := HOw.out _ e; omega)) (by show x ≠ p; have := HPz.out; omega) (.slice (some ⟨g2, 0, none⟩) (LK.length + 1) cap2)
    refine wpAnyH_ready (rs := [10]) (by kernel_rfl) (by simp) ?_
    refine AllReadyH.cons (o := ⟨none, .store 32 (.tmp 44) (.tmp 42), 0, "rings.go:85", #[⟨9, .data⟩, ⟨7, .data⟩, ⟨7, .chain⟩, ⟨0, .phase⟩, ⟨1, .phase⟩, ⟨2, .phase⟩, ⟨3, .phase⟩, ⟨4, .phase⟩, ⟨5, .phase⟩, ⟨6, .phase⟩, ⟨7, .phase⟩], none⟩) rfl (fun K hK => ?_) AllReadyH.nil
    go_simp
    refine hK.out _ _ ?_ (fun hHeld => ?_)
    ·exact D8
    clear hK K
    try simp only [Act.put,nA,nB,nC]
    refine wpAnyH_done (by kernel_rfl) ?_ _
    rw [← HN.out] at T8
    clear hHeld D8 m7 hg7 ho7 hs7 hos c7 f7 c6 L6 L5 M5 D5 e6 b6 b56 c1
    set_option maxRecDepth 5000 in
    go_wp2_with fail
    exact ⟨⟨k + 1, _, by omega, T8, M8, O8, by go_num⟩, by simp [intOf]; omega⟩
  ·have hk2 : k = ss.length := by omega
   have dk : decide (k < ss.length) = false := decide_eq_false hlt
   have dk2 : decide ((k : Int) < (ss.length : Int)) = false := decide_eq_false (by omega)
   rw [hk2, List.take_length] at HL
   have hf : AddPost w B p b lv wd L (ss.map (leafD wd)) (.returned (.int .i64 0)) wr := ⟨rfl, lvk, HL.out, HM.out, HO.out⟩
   have Hf := Lib.hid hf
   clear hf HL HM HO
   go_wp2_with fail
   go_ret
   exact Hf.out
set_option maxHeartbeats 2000000 in
theorem New_gen (wd : Nat) (v : Value) (ss : List ByteArray) (w : World) (hw : 1 ≤ wd) (hwd : wd ≤ 32) (hv : Hid (StrRow w v ss)) (hn : ss.length ≤ 1048576) (hss : Hid (∀ s ∈ ss, s.size ≤ 140737488355300)) :
  Calls Try.prog 24 #[.int .i64 (wd : Int), v] w (NewPost w wd (ss.map (leafD wd))) := by
 have hwb : wideB (wd : Int) = true := by simp [wideB]; omega
 have HW := Lib.hid hwb
 clear hwb
 have hmm := @run_makeMap Try.prog
 go_enter Try.func24, Try.ntmps24
 go_upto_region 4 with (go_at_call 42; refine (right_any _ _).mono ?_; rintro e w3 ⟨rfl, rfl⟩; rw [HW.out])
 refine wp_name (fun W => LogB W w.heap.size (w.heap.size + 1) w.heap.size (.slice none 0 0) wd [] ∧ Below w.heap.size w W ∧ W.heap.size = w.heap.size + 2) ⟨LogB.made w wd _ rfl, ((Below.refl _ _).alloc (Nat.le_refl _) _).alloc (by simp) _, by simp⟩ (fun w1 hq => ?_)
 obtain ⟨l1, b1, z1⟩ := hq
 have V1 := hv.out.below' b1
 have L1 := Lib.hid l1
 have B1 := Lib.hid b1
 clear l1 b1
 go_upto_region 5 with (go_at_call 26; refine (Add_gen w1 w.heap.size (w.heap.size + 1) w.heap.size _ wd [] v ss L1 hw hwd V1 (by simpa using hn) hss (by omega) (fun hp k hk => ⟨by have := hv.out.lt hp k hk; omega, by have := hv.out.lt hp k hk; omega, by simp [Value.ownBlock]⟩)).mono ?_; rintro e w2 ⟨rfl, lv2, L2, M2, O2⟩)
 have hf : NewPost w wd (ss.map (leafD wd)) (.returned (.tuple #[.pointer (some ⟨w.heap.size + 1, 0, none⟩), .int .i64 0])) w2 :=
  ⟨_, _, lv2, rfl, L2, B1.out.trans (M2.below (n := w.heap.size) (fun k hk e => by rcases e with e | e; omega; cases e) (by omega))⟩
 have Hf := Lib.hid hf
 clear hf L2 M2 O2 V1
 go_wp2_with fail
 go_ret2
 exact Hf.out
end Go.Proofs.Ytihbhpggpnmifaa
