/-
 The walk of a log's Lay.
-/
import Derived.Test.YtihbhpggpnmifaaHG
import Derived.Test.YtihbhpggpnmifaaGR
import Derived.Test.YtihbhpggpnmifaaGG
import Derived.Test.YtihbhpggpnmifaaHD
import Derived.Test.YtihbhpggpnmifaaGS
set_option linter.unusedSimpArgs false
set_option linter.unusedVariables false
namespace Go.Proofs.Ytihbhpggpnmifaa
open Go.RowKit Go.Lib Hw
theorem LogB.appL {w w' : World} {B p b : Nat} {lv v' : Value} {wd : Nat} {L ds : List Dg} (h : LogB w B p b lv wd L) (hd : All32 ds) (hlen : L.length + ds.length ≤ 1048576) (hg : w.grownBy w' lv.ownBlock) (hown : OwnR w' B v' (L ++ ds)) (hn : ∀ g, v'.ownBlock = some g → lv.ownBlock = some g ∨ w.heap.size ≤ g) : LogB (w'.setCell ⟨p, 1, none⟩ v') B p b v' wd (L ++ ds) := by
 have m : Mod (fun k => lv.ownBlock = some k) w w' := Mod.grown hg (fun k e => e)
 have hpz := h.lt
 have hbz := h.ltb
 have hvp : v'.ownBlock ≠ some p := fun e => by
  rcases hn p e with h1 | h1
  ·exact h.hlp h1
  ·omega
 have hvb : v'.ownBlock ≠ some b := fun e => by
  rcases hn b e with h1 | h1
  ·exact h.hlb h1
  ·omega
 refine ⟨?_, ?_, fun d hdd => (List.mem_append.1 hdd).elim (h.all d) (hd d), ?_, h.hp, h.hb, h.hpb, hvp, hvb, by rw [List.length_append]; exact hlen⟩
 ·have h1 := heap_set (o := 1) (m.heap h.cells h.hlp) v'
  exact h1
 ·exact hown.mod (Mod.set (S := fun k => k = p) w' rfl v') (fun k hk e => hvp (by rw [← e]; exact hk))
 ·exact ((h.map.mod m h.hlb).more ds).mod (Mod.set (S := fun k => k = p) w' rfl v') (fun e => h.hpb e.symm)
def layE (wd : Nat) (L ds : List Dg) : Int := if fitsL wd ds = true then (if 1048576 < L.length + ds.length then 5 else 0) else 2
def LayPost (w : World) (B p b : Nat) (lv : Value) (wd : Nat) (L ds : List Dg) (e : Ending) (w' : World) : Prop :=
 e = .returned (.int .i64 (layE wd L ds)) ∧ ∃ lv', LogB w' B p b lv' wd (if layE wd L ds = 0 then L ++ ds else L) ∧ Mod (fun k => k = p ∨ lv.ownBlock = some k) w w' ∧ ∀ g, lv'.ownBlock = some g → lv.ownBlock = some g ∨ w.heap.size ≤ g
set_option maxHeartbeats 8000000 in
theorem Lay_any (w : World) (B p b : Nat) (lv : Value) (wd : Nat) (L : List Dg) (v : Value) (ds : List Dg) (lim : Nat) (h : Hid (LogB w B p b lv wd L)) (hw : 1 ≤ wd) (hwd : wd ≤ 32) (hd : Hid (DRow w lim v ds)) (hnil : Hid (NilOk v)) (hdl : ds.length * 32 ≤ 140737488351232) (hB : B ≤ w.heap.size) :
  Calls Try.prog 39 #[.pointer (some ⟨p, 0, none⟩), v] w (LayPost w B p b lv wd L ds) := by
 have HA : Hid (All32 ds) := hd.out.1
 obtain ⟨ad, c, rfl, _, hra⟩ := hd.out.at
 obtain ⟨lad, lcap, rfl, _⟩ := h.out.leaves.shape
 obtain ⟨T, hT⟩ : ∃ T, ds.length = T := ⟨_, rfl⟩
 have HT := Lib.hid hT
 have Hra := Lib.hid hra
 have H2 : Hid (fitsL wd ds = false → LayPost w B p b (.slice lad L.length lcap) wd L ds (.returned (.int .i64 2)) = LayPost w B p b (.slice lad L.length lcap) wd L ds (.returned (.int .i64 (layE wd L ds)))) := fun hf => by
  unfold layE
  rw [hf]
  simp
 have hP2 : Hid (∀ w', fitsL wd ds = false → LogB w' B p b (.slice lad L.length lcap) wd L → Below w.heap.size w w' → LayPost w B p b (.slice lad L.length lcap) wd L ds (.returned (.int .i64 2)) w') := fun w' hf l hb => by
  have e : layE wd L ds = 2 := by unfold layE; rw [hf]; simp
  exact ⟨by rw [e], _, by rw [e]; exact l, Mod.of _ hb, fun g hg => .inl hg⟩
 have hP5 : Hid (∀ w', fitsL wd ds = true → 1048576 < L.length + ds.length → LogB w' B p b (.slice lad L.length lcap) wd L → Below w.heap.size w w' → LayPost w B p b (.slice lad L.length lcap) wd L ds (.returned (.int .i64 5)) w') := fun w' hf hl l hb => by
  have e : layE wd L ds = 5 := by unfold layE; rw [hf]; simp [hl]
  exact ⟨by rw [e], _, by rw [e]; exact l, Mod.of _ hb, fun g hg => .inl hg⟩
 have hP0 : Hid (∀ w' lv', fitsL wd ds = true → ¬ 1048576 < L.length + ds.length → LogB w' B p b lv' wd (L ++ ds) → Mod (fun k => k = p ∨ (Value.slice lad L.length lcap).ownBlock = some k) w w' → (∀ g, lv'.ownBlock = some g → (Value.slice lad L.length lcap).ownBlock = some g ∨ w.heap.size ≤ g) → LayPost w B p b (.slice lad L.length lcap) wd L ds (.returned (.int .i64 0)) w') := fun w' lv' hf hl l hm hg => by
  have e : layE wd L ds = 0 := by unfold layE; rw [hf]; simp [hl]
  exact ⟨by rw [e], lv', by rw [e]; exact l, hm, hg⟩
 have HFk : Hid (∀ (k : Nat) (hk : k < ds.length), fitB wd ds[k] = false → fitsL wd ds = false) := fun k hk hf => by
  unfold fitsL
  rw [List.all_eq_false]
  exact ⟨ds[k], List.getElem_mem hk, by rw [hf]; decide⟩
 have HFa : Hid ((∀ (k : Nat) (hk : k < ds.length), fitB wd ds[k] = true) → fitsL wd ds = true) := fun ha => by
  unfold fitsL
  rw [List.all_eq_true]
  intro d hdd
  obtain ⟨k, hk, rfl⟩ := List.mem_iff_getElem.1 hdd
  exact ha k hk
 obtain ⟨R, hR⟩ : ∃ R, LayPost w B p b (.slice lad L.length lcap) wd L ds = R := ⟨_, rfl⟩
 rw [hR]
 have HR := Lib.hid hR
 rw [hT] at hdl hd hnil ⊢
 have hLl := h.out.len
 clear hra hR H2 hT
 go_enter Try.func39, Try.ntmps39
 go_upto_region 3 with (go_at_call 55; refine (off_log _ B p b _ wd L h hw).mono ?_; rintro e w3 ⟨rfl, rfl⟩)
 go_upto_region 4 with fail
 go_loopw [11] (fun i wr => ∃ (k : Nat), k ≤ T ∧ Hid (LogB wr B p b (.slice lad L.length lcap) wd L) ∧ Hid (Below w.heap.size w wr) ∧ Hid (∀ (j : Nat) (hj : j < ds.length), j < k → fitB wd ds[j] = true) ∧ i = .int .i64 (k : Int)) (fun i _ => T - (intOf i).toNat)
 case atStart => exact ⟨0, Nat.zero_le _, h, Below.refl _ _, fun j _ hj => by omega, rfl⟩
 case round =>
  obtain ⟨k, hk, L0, Bw, HF, rfl⟩ := hrel
  clear h
  by_cases hlt : k < T
  case pos =>
   have dk : decide (k < T) = true := decide_eq_true hlt
   have dk2 : decide ((k : Int) < (T : Int)) = true := decide_eq_true (by omega)
   have ik : (k : Int) < (T : Int) := by omega
   have hkl : k < ds.length := by rw [HT.out]; exact hlt
   obtain ⟨rb, ro, rfl, hr1⟩ := Hra.out (by omega)
   have h1 := hr1 k hkl
   have hDl := HA.out _ (List.getElem_mem hkl)
   obtain ⟨D, hD⟩ : ∃ D, ds[k] = D := ⟨_, rfl⟩
   have hFk := HFk.out k hkl
   rw [hD] at h1 hDl hFk
   have hx1 : rb < w.heap.size := World.block_lt_of_cell? _ _ (h1 0 _ (List.getElem?_eq_getElem (by rw [List.length_map]; omega)))
   have R1 := Lib.hid (range_block h1 (Bw.out.block rb hx1))
   have HDl := Lib.hid hDl
   obtain ⟨Q, hQ⟩ : ∃ Q, fitB wd D = Q := ⟨_, rfl⟩
   have HQ := Lib.hid hQ
   rw [hQ] at hFk
   have HFk2 := Lib.hid hFk
   have HF2 : Hid (Q = true → ∀ (j : Nat) (hj : j < ds.length), j < k + 1 → fitB wd ds[j] = true) := fun hq j hj hjk => by
    by_cases e : j = k
    ·subst e
     rw [hD, hQ, hq]
    ·exact HF.out j hj (by omega)
   clear hr1 h1 hDl hD hFk hx1 hQ hkl HF
   go_upto_region 5 with fail
   with_reducible refine wp_region_list ?_
   (with_reducible refine wpList_plain rfl ?_); intro K hK; go_simp; (with_reducible refine hK _ _ ?_); clear hK K; try simp only [Act.put,nA,nB,nC]
   refine wpList_loadRng rfl _ rfl rb (ro + k * 32) rfl D HDl.out R1.out ?_
   try simp only [Act.put,nA,nB,nC]
   obtain ⟨x, hx⟩ : ∃ x, wr.heap.size = x := ⟨_, rfl⟩
   refine wpList_allocD rfl rfl x hx ?_
   intro w1 e1 b1 z1
   try simp only [Act.put,nA,nB,nC]
   refine wpList_storeD rfl _ _ rfl x rfl zeros32 D rfl HDl.out rfl e1 ?_
   intro w2 e2 b2 k2 z2
   try simp only [Act.put,nA,nB,nC]
   have b02 : Below wr.heap.size wr w2 := by rw [hx]; exact b1.trans b2
   have L2 := Lib.hid (L0.out.below b02)
   have B2 := Lib.hid (Bw.out.trans (b02.mono Bw.out.size))
   have E2 := Lib.hid e2
   have c0 := L2.out.cell0
   have hz2 := B2.out.size
   have hx2 : x < w2.heap.size := heap_lt e2
   clear e1 b1 z1 e2 b2 k2 z2 b02 L0 Bw R1 hx
   cases Q
   case false =>
    go_upto_region 6 with fail
    refine wp_region_held_drew (S := fun W => W.cell? ⟨p, 0, none⟩ = some (.int .i64 (wd : Int)) ∧ DB W x D) (by kernel_rfl) ⟨c0, E2.out⟩ (fun hHeld => ?_)
    refine' tQ 0 ⟨some 15, .move (.tmp 0), 40, "rings.go:95", #[], none⟩ rfl (by kernel_rfl) (Or.inl ⟨by rfl, _⟩) _; rotate_left; · (intro s h; (try dsimp only at h); go_simp; try with_reducible rfl)
    try simp only [Act.put,nA,nB,nC]
    refine' tQ 1 ⟨some 16, .nilCheck (.tmp 15), 0, "rings.go:95", #[⟨0, .data⟩], none⟩ rfl (by kernel_rfl) (Or.inl ⟨by rfl, _⟩) _; rotate_left; · (intro s h; (try dsimp only at h); go_simp; try with_reducible rfl)
    try simp only [Act.put,nA,nB,nC]
    refine' tQ 2 ⟨some 17, .fieldAddr 101 (.tmp 16) 0, 0, "rings.go:95", #[⟨1, .data⟩], none⟩ rfl (by kernel_rfl) (Or.inl ⟨by rfl, _⟩) _; rotate_left; · (intro s h; (try dsimp only at h); go_simp; try with_reducible rfl)
    try simp only [Act.put,nA,nB,nC]
    refine' tQ 3 ⟨some 18, .load 3 (.tmp 17), 3, "rings.go:95", #[⟨2, .data⟩], none⟩ rfl (by kernel_rfl) (Or.inl ⟨by rfl, _⟩) _; rotate_left; · (intro s h; (try dsimp only at h); go_simp; try with_reducible rfl)
    try simp only [Act.put,nA,nB,nC]
    refine' tQ 4 ⟨some 19, .load 23 (.tmp 6), 23, "rings.go:95", #[], none⟩ rfl (by kernel_rfl) (yieldsIf_loadD (by rfl) _ rfl (x) rfl (D) (HDl.out) (fun W hW => hW.2)) _
    try simp only [Act.put,nA,nB,nC]
    refine wpAnyH_ready (rs := [5]) (by kernel_rfl) (by simp) ?_
    refine AllReadyH.cons (o := ⟨some 20, .call ⟨.value (.func 72), #[.tmp 18, .tmp 19], #[3, 23]⟩, 4, "rings.go:95", #[⟨3, .data⟩, ⟨4, .data⟩], none⟩) rfl (fun K hK => ?_) AllReadyH.nil
    (go_simp; (go_at_call 72; refine (Fits_any wd D _ HDl.out).mono ?_; rintro e w4 ⟨rfl, hb'⟩; rw [HQ.out]; have hb4 : Below w2.heap.size w2 w4 := Below.trans (Below.refl _ _).drew hb'; have L4 := Lib.hid (L2.out.below hb4)))
    refine hK.out _ _ ?_ (fun hHeld => ?_)
    ·exact ⟨L4.out.cell0, heap_below E2.out hb4 hx2⟩
    clear hK K
    try simp only [Act.put,nA,nB,nC]
    refine' tQ 6 ⟨some 21, .unOp .not 4 (.tmp 20), 4, "rings.go:95", #[⟨5, .data⟩], none⟩ rfl (by kernel_rfl) (Or.inl ⟨by rfl, _⟩) _; rotate_left; · (intro s h; (try dsimp only at h); go_simp; try with_reducible rfl)
    try simp only [Act.put,nA,nB,nC]
    refine wpAnyH_done (by kernel_rfl) ?_ _
    have B4 := Lib.hid (B2.out.trans (hb4.mono hz2))
    clear hHeld hb' hb4 L2 B2 E2 c0 HF2
    go_wp2_with fail
    rw [← HR.out]
    exact hP2.out _ (HFk2.out (by first | rfl | trivial)) L4.out B4.out
   case true =>
    go_upto_region 6 with fail
    refine wp_region_held_drew (S := fun W => W.cell? ⟨p, 0, none⟩ = some (.int .i64 (wd : Int)) ∧ DB W x D) (by kernel_rfl) ⟨c0, E2.out⟩ (fun hHeld => ?_)
    refine' tQ 0 ⟨some 15, .move (.tmp 0), 40, "rings.go:95", #[], none⟩ rfl (by kernel_rfl) (Or.inl ⟨by rfl, _⟩) _; rotate_left; · (intro s h; (try dsimp only at h); go_simp; try with_reducible rfl)
    try simp only [Act.put,nA,nB,nC]
    refine' tQ 1 ⟨some 16, .nilCheck (.tmp 15), 0, "rings.go:95", #[⟨0, .data⟩], none⟩ rfl (by kernel_rfl) (Or.inl ⟨by rfl, _⟩) _; rotate_left; · (intro s h; (try dsimp only at h); go_simp; try with_reducible rfl)
    try simp only [Act.put,nA,nB,nC]
    refine' tQ 2 ⟨some 17, .fieldAddr 101 (.tmp 16) 0, 0, "rings.go:95", #[⟨1, .data⟩], none⟩ rfl (by kernel_rfl) (Or.inl ⟨by rfl, _⟩) _; rotate_left; · (intro s h; (try dsimp only at h); go_simp; try with_reducible rfl)
    try simp only [Act.put,nA,nB,nC]
    refine' tQ 3 ⟨some 18, .load 3 (.tmp 17), 3, "rings.go:95", #[⟨2, .data⟩], none⟩ rfl (by kernel_rfl) (Or.inl ⟨by rfl, _⟩) _; rotate_left; · (intro s h; (try dsimp only at h); go_simp; try with_reducible rfl)
    try simp only [Act.put,nA,nB,nC]
    refine' tQ 4 ⟨some 19, .load 23 (.tmp 6), 23, "rings.go:95", #[], none⟩ rfl (by kernel_rfl) (yieldsIf_loadD (by rfl) _ rfl (x) rfl (D) (HDl.out) (fun W hW => hW.2)) _
    try simp only [Act.put,nA,nB,nC]
    refine wpAnyH_ready (rs := [5]) (by kernel_rfl) (by simp) ?_
    refine AllReadyH.cons (o := ⟨some 20, .call ⟨.value (.func 72), #[.tmp 18, .tmp 19], #[3, 23]⟩, 4, "rings.go:95", #[⟨3, .data⟩, ⟨4, .data⟩], none⟩) rfl (fun K hK => ?_) AllReadyH.nil
    (go_simp; (go_at_call 72; refine (Fits_any wd D _ HDl.out).mono ?_; rintro e w4 ⟨rfl, hb'⟩; rw [HQ.out]; have hb4 : Below w2.heap.size w2 w4 := Below.trans (Below.refl _ _).drew hb'; have L4 := Lib.hid (L2.out.below hb4)))
    refine hK.out _ _ ?_ (fun hHeld => ?_)
    ·exact ⟨L4.out.cell0, heap_below E2.out hb4 hx2⟩
    clear hK K
    try simp only [Act.put,nA,nB,nC]
    refine' tQ 6 ⟨some 21, .unOp .not 4 (.tmp 20), 4, "rings.go:95", #[⟨5, .data⟩], none⟩ rfl (by kernel_rfl) (Or.inl ⟨by rfl, _⟩) _; rotate_left; · (intro s h; (try dsimp only at h); go_simp; try with_reducible rfl)
    try simp only [Act.put,nA,nB,nC]
    refine wpAnyH_done (by kernel_rfl) ?_ _
    have B4 := Lib.hid (B2.out.trans (hb4.mono hz2))
    have HF3 := Lib.hid (HF2.out rfl)
    clear hHeld hb' hb4 L2 B2 E2 c0 HF2
    go_wp2_with fail
    exact ⟨⟨k + 1, by omega, L4, B4, HF3, by go_num⟩, by simp [intOf]; omega⟩
  case neg =>
   have dk : decide (k < T) = false := decide_eq_false hlt
   have dk2 : decide ((k : Int) < (T : Int)) = false := decide_eq_false (by omega)
   have hF := HFa.out (fun j hj => HF.out j hj (by have := HT.out; omega))
   have HFt := Lib.hid hF
   have c1 := L0.out.cell1
   clear hF HF
   by_cases hbig : 1048576 < L.length + T
   case pos =>
    have d1 : decide ((1048576 : Int) - (L.length : Int) < (T : Int)) = true := decide_eq_true (by omega)
    go_wp2_with fail
    rw [← HR.out]
    exact hP5.out _ HFt.out (by rw [HT.out]; exact hbig) L0.out Bw.out
   case neg =>
    have d1 : decide ((1048576 : Int) - (L.length : Int) < (T : Int)) = false := decide_eq_false (by omega)
    go_upto_region 11 with fail
    clear dk dk2 d1
    with_reducible refine wp_region_list ?_
    iterate 6
     (with_reducible refine wpList_plain rfl ?_); intro K hK; go_simp; (with_reducible refine hK _ _ ?_); clear hK K; try simp only [Act.put,nA,nB,nC]
    have hdw := hd.out.below Bw.out
    refine wpList_appDR rfl _ _ rfl B (.slice lad L.length lcap) (.slice ad T c) L ds lim rfl L0.out.leaves rfl hnil.out hdw (by rw [HT.out]; omega) (by have := Bw.out.size; omega) ?_
    intro v2 w2 o2 g2 n2
    obtain ⟨a2, cap2, hv2, _⟩ := o2.shape
    obtain ⟨q2, hq2⟩ : ∃ q, (L ++ ds).length = q := ⟨_, rfl⟩
    rw [hq2] at hv2
    subst hv2
    clear hq2
    try simp only [Act.put,nA,nB,nC]
    have m2 : Mod (fun k => (Value.slice lad L.length lcap).ownBlock = some k) wr w2 := Mod.grown g2 (fun k e => e)
    have c7 := heap_cell (m2.heap L0.out.cells L0.out.hlp) (o := 1)
    have f7 := heap_free (m2.heap L0.out.cells L0.out.hlp) 1
    have hn2 : ∀ g, (Value.slice a2 q2 cap2).ownBlock = some g → (Value.slice lad L.length lcap).ownBlock = some g ∨ wr.heap.size ≤ g := fun g hg => by
     rcases n2 with h | h
     ·left; rw [← h]; exact hg
     ·right; rw [h] at hg; have := Option.some.inj hg; omega
    have L3 := Lib.hid (L0.out.appL HA.out (by rw [HT.out]; omega) g2 o2 hn2)
    have M3 : Hid (Mod (fun k => k = p ∨ (Value.slice lad L.length lcap).ownBlock = some k) w (w2.setCell ⟨p, 1, none⟩ (Value.slice a2 q2 cap2))) := ((Mod.of _ Bw.out).trans m2 (fun k hk e => .inr e)).then (Mod.set (o := 1) w2 (.inl rfl) _)
    have N3 : Hid (∀ g, (Value.slice a2 q2 cap2).ownBlock = some g → (Value.slice lad L.length lcap).ownBlock = some g ∨ w.heap.size ≤ g) := fun g hg => (hn2 g hg).elim .inl (fun h => .inr (by have := Bw.out.size; omega))
    have hP := hP0.out _ (Value.slice a2 q2 cap2) HFt.out (by rw [HT.out]; exact hbig) L3.out M3.out N3.out
    rw [HR.out] at hP
    have HP := Lib.hid hP
    clear hP L3 M3 N3 hn2 m2 g2 o2 n2 hdw c1
    iterate 3
     (with_reducible refine wpList_plain rfl ?_); intro K hK; go_simp; (with_reducible refine hK _ _ ?_); clear hK K; try simp only [Act.put,nA,nB,nC]
    go_wp2_with fail
    exact HP.out
end Go.Proofs.Ytihbhpggpnmifaa
namespace Go.Proofs.Ytihbhpggpnmifaa
open Go.RowKit Go.Lib Hw
theorem own_set {w : World} {B g cap : Nat} {xs : List ByteArray} (h : OwnT w B (.slice (some ⟨g, 0, none⟩) xs.length cap) xs) (j : Nat) (x : ByteArray) : OwnT (w.setCell ⟨g, j, none⟩ (.string x)) B (.slice (some ⟨g, 0, none⟩) xs.length cap) (xs.set j x) := by
 unfold OwnT
 rw [List.length_set, List.map_set]
 exact (World.ownsRow.stored h j (.string x)).1
theorem own_free {w : World} {B g cap : Nat} {xs : List ByteArray} (h : OwnT w B (.slice (some ⟨g, 0, none⟩) xs.length cap) xs) (j : Nat) : w.frozen? ⟨g, j, none⟩ = false := World.ownsRow.frozenAt h j
def LentTx (w : World) (l : List ByteArray) (e : Ending) (w' : World) : Prop :=
 ∃ g cap, e = .returned (.slice (some ⟨g, 0, none⟩) l.length cap) ∧ OwnT w' w.heap.size (.slice (some ⟨g, 0, none⟩) (l.length + 1) cap) (l ++ [markS]) ∧ Below w.heap.size w w'
set_option maxHeartbeats 1000000 in
theorem lentTexts_any (v : Value) (l : List ByteArray) (w : World) (hv : StrRow w v l) (hl : l.length * 16 ≤ 140737488355240) :
  Calls Try.prog 66 #[v] w (LentTx w l) := by
 obtain ⟨ad, c, rfl, _⟩ := strRow_form hv
 have HV := Lib.hid hv
 clear hv
 go_enter Try.func66, Try.ntmps66
 go_upto_region 2 with fail
 with_reducible refine wp_region_list ?_
 iterate 2
  (with_reducible refine wpList_plain rfl ?_); intro K hK; go_simp; (with_reducible refine hK _ _ ?_); clear hK K; try simp only [Act.put,nA,nB,nC]
 refine wpList_copyT _ rfl _ _ rfl rfl _ l rfl HV.out (by omega) ?_
 intro v1 w1 hv1 hb1
 try simp only [Act.put,nA,nB,nC]
 have HV1 := Lib.hid hv1
 have HB1 := Lib.hid hb1
 have hz1 := hb1.size
 clear hv1 hb1
 (with_reducible refine wpList_plain rfl ?_); intro K hK; go_simp; (with_reducible refine hK _ _ ?_); clear hK K; try simp only [Act.put,nA,nB,nC]
 go_upto_region 3 with fail
 with_reducible refine wp_region_list ?_
 iterate 2
  (with_reducible refine wpList_plain rfl ?_); intro K hK; go_simp; (with_reducible refine hK _ _ ?_); clear hK K; try simp only [Act.put,nA,nB,nC]
 refine wpList_appT w1 9 markS rfl _ _ rfl w.heap.size v1 l rfl HV1.out _ rfl (by omega) hz1 ?_
 intro v2 w2 hv2 hb2
 try simp only [Act.put,nA,nB,nC]
 obtain ⟨g, cap, hu, _, _, hcap⟩ := hv2.form (by simp)
 have hln : (l ++ [markS]).length = l.length + 1 := by simp
 rw [hln] at hu hcap
 subst hu
 have HO := Lib.hid hv2
 have HB := Lib.hid (HB1.out.trans hb2)
 have hc2 : l.length ≤ cap := by omega
 clear hv2 hb2 HV1 HB1 hln hcap
 (with_reducible refine wpList_plain rfl ?_); intro K hK; go_simp; (with_reducible refine hK _ _ ?_); clear hK K; try simp only [Act.put,nA,nB,nC]
 go_wp2_with fail
 go_ret
 exact ⟨g, cap, rfl, HO.out, HB.out⟩
def goneS : ByteArray := ⟨#[103, 111, 110, 101]⟩
def keptS (l : List ByteArray) (k : Nat) : List ByteArray := List.replicate k goneS ++ (l.drop k ++ [markS])
theorem keptS_len (l : List ByteArray) (k : Nat) (h : k ≤ l.length) : (keptS l k).length = l.length + 1 := by simp [keptS]; omega
theorem keptS_at (l : List ByteArray) (k : Nat) (h : k < l.length) (hk : k < (keptS l k).length) : (keptS l k)[k] = l[k] := by
 apply Option.some_inj.1
 rw [← List.getElem?_eq_getElem, ← List.getElem?_eq_getElem]
 unfold keptS
 rw [List.getElem?_append_right (by simp), List.getElem?_append_left (by simp; omega)]
 simp
theorem keptS_set (l : List ByteArray) (k : Nat) (h : k < l.length) : (keptS l k).set k goneS = keptS l (k + 1) := by
 unfold keptS
 rw [List.set_append_right _ _ (by simp), List.length_replicate, Nat.sub_self, List.drop_eq_getElem_cons h, List.cons_append, List.set_cons_zero, List.replicate_succ', List.append_assoc]
 rfl
set_option maxHeartbeats 2000000 in
theorem keptTexts_any (g cap : Nat) (v : Value) (l : List ByteArray) (w : World) (B : Nat) (ho : Hid (OwnT w B (.slice (some ⟨g, 0, none⟩) (l.length + 1) cap) (l ++ [markS]))) (hv : Hid (StrRow w v l)) (hne : Hid (0 < l.length → v.ownBlock ≠ some g)) (n0 : Nat) (hl : l.length * 16 ≤ 140737488355240) :
  Calls Try.prog 67 #[.slice (some ⟨g, 0, none⟩) n0 cap, v] w fun e w' => e = .returned (.bool true) ∧ Mod (fun k => k = g) w w' := by
 obtain ⟨_, _, e0, _, _, hcap⟩ := ho.out.form (by simp)
 simp only [List.length_append, List.length_singleton, Value.slice.injEq, Option.some.injEq, Addr.mk.injEq] at e0 hcap
 have hcp : l.length + 1 ≤ cap := by omega
 obtain ⟨ad, c, rfl, _⟩ := strRow_form hv.out
 have HO : Hid (OwnT w B (.slice (some ⟨g, 0, none⟩) (l.length + 1) cap) (keptS l 0)) := ho
 have hm := ho.out.cell l.length (by simp)
 rw [List.getElem_append_right (Nat.le_refl _)] at hm
 simp only [Nat.sub_self, List.getElem_cons_zero] at hm
 clear ho e0 hcap
 go_enter Try.func67, Try.ntmps67
 have ik : (l.length : Int) < ((l.length + 1 : Nat) : Int) := by omega
 have ik2 : (l.length : Int) < (l.length : Int) + 1 := by omega
 have hq : (markS.toList == [109, 97, 114, 107]) = true := by rw [ByteArray.toList_eq]; rfl
 go_upto_region 3 with fail
 clear hq hm
 go_upto_region 4 with fail
 go_loopw [6, 7] (fun okv i wr => ∃ (k : Nat), k ≤ l.length ∧ okv = .bool true ∧ Hid (OwnT wr B (.slice (some ⟨g, 0, none⟩) (l.length + 1) cap) (keptS l k)) ∧ Hid (Mod (fun k => k = g) w wr) ∧ i = .int .i64 (k : Int)) (fun _ i _ => l.length - (intOf i).toNat)
 case atStart => exact ⟨0, Nat.zero_le _, rfl, HO, Mod.refl _ _, rfl⟩
 case round =>
  obtain ⟨k, hk, rfl, HO, HM, rfl⟩ := hrel
  by_cases hlt : k < l.length
  case pos =>
   have dk : decide (k < l.length) = true := decide_eq_true hlt
   have dk2 : decide ((k : Int) < (l.length : Int)) = true := decide_eq_true (by omega)
   have ik3 : (k : Int) < (l.length : Int) := by omega
   have ik4 : (k : Int) < ((l.length + 1 : Nat) : Int) := by omega
   have ik5 : (k : Int) < (l.length : Int) + 1 := by omega
   have hrow := hv.out.mod HM.out (fun k hk e => hne.out (by omega) (by rw [hk, e]))
   obtain ⟨_, _, e1, hvs⟩ := strRow_form hrow
   have e2 := (Value.slice.inj e1).1
   obtain ⟨b, o, e3, hcs⟩ := hvs (by omega)
   rw [e3] at e2
   subst e2
   have hc := hcs k hlt
   have hkl : k < (keptS l k).length := by rw [keptS_len _ _ hk]; omega
   have hg := HO.out.cell k hkl
   rw [keptS_at l k hlt] at hg
   obtain ⟨s, hs⟩ : ∃ s, l[k] = s := ⟨_, rfl⟩
   rw [hs] at hc hg
   have hq : (s.toList == s.toList) = true := beq_self_eq_true _
   have H := Lib.hid (And.intro hg hc)
   clear e1 e3 hvs hcs hrow hs hc hg
   go_upto_region 6 with fail
   refine wp_region_held_drew (S := fun W => W.cell? ⟨g, k, none⟩ = some (.string s) ∧ W.cell? ⟨b, o + k, none⟩ = some (.string s)) (by kernel_rfl) H.out (fun hHeld => ?_)
   refine' tQ 0 ⟨some 25, .move (.tmp 6), 4, "law.go:53", #[], none⟩ rfl (by kernel_rfl) (Or.inl ⟨by rfl, _⟩) _; rotate_left; · (intro s h; (try dsimp only at h); go_simp; try with_reducible rfl)
   try simp only [Act.put,nA,nB,nC]
   refine' tQ 1 ⟨some 26, .move (.tmp 25), 4, "law.go:53", #[⟨0, .data⟩], none⟩ rfl (by kernel_rfl) (Or.inl ⟨by rfl, _⟩) _; rotate_left; · (intro s h; (try dsimp only at h); go_simp; try with_reducible rfl)
   try simp only [Act.put,nA,nB,nC]
   refine' tQ 2 ⟨some 27, .move (.tmp 5), 37, "law.go:53", #[⟨1, .guard⟩], some (1, true)⟩ rfl (by kernel_rfl) (Or.inl ⟨by rfl, _⟩) _; rotate_left; · (intro s h; (try dsimp only at h); go_simp; try with_reducible rfl)
   try simp only [Act.put,nA,nB,nC]
   refine' tQ 3 ⟨some 28, .move (.tmp 7), 3, "law.go:53", #[⟨1, .guard⟩], some (1, true)⟩ rfl (by kernel_rfl) (Or.inl ⟨by rfl, _⟩) _; rotate_left; · (intro s h; (try dsimp only at h); go_simp; try with_reducible rfl)
   try simp only [Act.put,nA,nB,nC]
   refine' tQ 4 ⟨some 29, .indexAddr 37 (.tmp 27) (.tmp 28), 0, "law.go:53", #[⟨2, .data⟩, ⟨3, .data⟩, ⟨1, .guard⟩], some (1, true)⟩ rfl (by kernel_rfl) (Or.inl ⟨by rfl, _⟩) _; rotate_left; · (intro s h; (try dsimp only at h); go_simp; try with_reducible rfl)
   try simp only [Act.put,nA,nB,nC]
   refine' tQ 5 ⟨some 30, .load 9 (.tmp 29), 9, "law.go:53", #[⟨4, .data⟩, ⟨1, .guard⟩], some (1, true)⟩ rfl (by kernel_rfl) (Or.inl ⟨by rfl, _⟩) _; rotate_left; · (intro s h; (try dsimp only at h); go_simp; try with_reducible rfl)
   try simp only [Act.put,nA,nB,nC]
   refine' tQ 6 ⟨some 31, .move (.tmp 1), 37, "law.go:53", #[⟨1, .guard⟩], some (1, true)⟩ rfl (by kernel_rfl) (Or.inl ⟨by rfl, _⟩) _; rotate_left; · (intro s h; (try dsimp only at h); go_simp; try with_reducible rfl)
   try simp only [Act.put,nA,nB,nC]
   refine' tQ 7 ⟨some 32, .move (.tmp 7), 3, "law.go:53", #[⟨1, .guard⟩], some (1, true)⟩ rfl (by kernel_rfl) (Or.inl ⟨by rfl, _⟩) _; rotate_left; · (intro s h; (try dsimp only at h); go_simp; try with_reducible rfl)
   try simp only [Act.put,nA,nB,nC]
   refine' tQ 8 ⟨some 33, .indexAddr 37 (.tmp 31) (.tmp 32), 0, "law.go:53", #[⟨6, .data⟩, ⟨7, .data⟩, ⟨1, .guard⟩], some (1, true)⟩ rfl (by kernel_rfl) (Or.inl ⟨by rfl, _⟩) _; rotate_left; · (intro s h; (try dsimp only at h); go_simp; try with_reducible rfl)
   try simp only [Act.put,nA,nB,nC]
   refine' tQ 9 ⟨some 34, .load 9 (.tmp 33), 9, "law.go:53", #[⟨8, .data⟩, ⟨1, .guard⟩], some (1, true)⟩ rfl (by kernel_rfl) (Or.inl ⟨by rfl, _⟩) _; rotate_left; · (intro s h; (try dsimp only at h); go_simp; try with_reducible rfl)
   try simp only [Act.put,nA,nB,nC]
   refine' tQ 10 ⟨some 35, .binOp .eql 9 (.tmp 30) (.tmp 34) 9, 4, "law.go:53", #[⟨5, .data⟩, ⟨9, .data⟩, ⟨1, .guard⟩], some (1, true)⟩ rfl (by kernel_rfl) (Or.inl ⟨by rfl, _⟩) _; rotate_left; · (intro s h; (try dsimp only at h); go_simp; try with_reducible rfl)
   try simp only [Act.put,nA,nB,nC]
   refine' tQ 11 ⟨some 36, .pick (.tmp 26) (.tmp 35) (.const (.bool false)), 4, "law.go:53", #[⟨1, .data⟩, ⟨10, .data⟩], none⟩ rfl (by kernel_rfl) (Or.inl ⟨by rfl, _⟩) _; rotate_left; · (intro s h; (try dsimp only at h); go_simp; try with_reducible rfl)
   try simp only [Act.put,nA,nB,nC]
   refine' tQ 12 ⟨some 6, .assign (.tmp 36), 4, "law.go:53", #[⟨11, .data⟩, ⟨1, .chain⟩, ⟨0, .phase⟩, ⟨1, .phase⟩, ⟨2, .phase⟩, ⟨3, .phase⟩, ⟨4, .phase⟩, ⟨5, .phase⟩, ⟨6, .phase⟩, ⟨7, .phase⟩, ⟨8, .phase⟩, ⟨9, .phase⟩, ⟨10, .phase⟩, ⟨11, .phase⟩], none⟩ rfl (by kernel_rfl) (Or.inl ⟨by rfl, _⟩) _; rotate_left; · (intro s h; (try dsimp only at h); go_simp; try with_reducible rfl)
   try simp only [Act.put,nA,nB,nC]
   refine wpAnyH_done (by kernel_rfl) ?_ _
   clear hHeld H hq
   have hlen := keptS_len l k hk
   have O2 : Hid (OwnT wr.drew B (.slice (some ⟨g, 0, none⟩) (keptS l k).length cap) (keptS l k)) := by show OwnT _ _ _ _; rw [hlen]; exact HO.out
   have ff := own_free O2.out k
   have cc := O2.out.cell k hkl
   rw [keptS_at l k hlt] at cc
   obtain ⟨su, hsu⟩ : ∃ s, l[k] = s := ⟨_, rfl⟩
   rw [hsu] at cc
   clear hsu
   have O3 := own_set O2.out k goneS
   rw [keptS_set l k hlt, hlen] at O3
   have HO3 := Lib.hid O3
   have HM3 : Hid (Mod (fun k => k = g) w (wr.drew.setCell ⟨g, k, none⟩ (.string goneS))) := HM.out.drew.then (Mod.set (S := fun k => k = g) (o := k) wr.drew rfl _)
   clear O3 hlen hkl HO HM O2
   obtain ⟨wd, hwd⟩ : ∃ W, wr.drew = W := ⟨_, rfl⟩
   rw [hwd] at ff cc HO3 HM3 ⊢
   clear hwd
   go_wp2_with fail
   exact ⟨⟨k + 1, by omega, rfl, HO3, HM3, by go_num⟩, by simp [intOf]; omega⟩
  case neg =>
   have dk : decide (k < l.length) = false := decide_eq_false hlt
   have dk2 : decide ((k : Int) < (l.length : Int)) = false := decide_eq_false (by omega)
   go_wp2_with fail
   go_ret
   exact ⟨rfl, HM.out⟩
end Go.Proofs.Ytihbhpggpnmifaa
namespace Go.Proofs.Ytihbhpggpnmifaa
open Go.RowKit Go.Lib Hw
theorem lent_row1 {w : World} {B g c : Nat} {l : List ByteArray} (h : OwnT w B (.slice (some ⟨g, 0, none⟩) (l.length + 1) c) (l ++ [markS])) : StrRow w (.slice (some ⟨g, 0, none⟩) l.length c) l := by
 have h1 := h.row l.length (by simp)
 rwa [List.take_left' rfl] at h1
set_option maxHeartbeats 4000000 in
theorem begun_bad (n : Int) (v : Value) (l : List ByteArray) (w : World) (hw : Hid (wideB n = false)) (hv : Hid (StrRow w v l)) (hl : l.length * 16 ≤ 140737488355240) :
  Calls Try.prog 36 #[.int .i64 n, v] w fun e w' => e = .returned (.tuple #[.pointer none, .slice none 0 0, .bool true]) ∧ Below w.heap.size w w' := by
 have hlt := hv.out.lt
 obtain ⟨ad, c, rfl, _⟩ := strRow_form hv.out
 have Hlt := Lib.hid hlt
 obtain ⟨N, hN⟩ : ∃ N, w.heap.size = N := ⟨_, rfl⟩
 have HN := Lib.hid hN
 clear hlt hN
 go_enter Try.func36, Try.ntmps36
 go_upto_region 1 with fail
 with_reducible refine wp_region_list ?_
 (with_reducible refine wpList_plain rfl ?_); intro K hK; go_simp; (with_reducible refine hK _ _ ?_); clear hK K; try simp only [Act.put,nA,nB,nC]
 with_reducible refine wpList_plain rfl ?_
 intro K hK
 go_simp
 refine (lentTexts_any _ l w hv.out hl).mono ?_; rintro e w1 ⟨g, cap, rfl, o1, b1⟩
 first | with_reducible refine hK _ _ ?_ | refine hK _ _ ?_
 clear hK K
 try simp only [Act.put,nA,nB,nC]
 rw [HN.out] at o1 b1
 have hg1 := (o1.lt g rfl).1
 have O1 := Lib.hid o1
 have B1 := Lib.hid b1
 clear o1 b1
 (with_reducible refine wpList_plain rfl ?_); intro K hK; go_simp; (with_reducible refine hK _ _ ?_); clear hK K; try simp only [Act.put,nA,nB,nC]
 go_upto_region 2 with fail
 with_reducible refine wp_region_list ?_
 iterate 2
  (with_reducible refine wpList_plain rfl ?_); intro K hK; go_simp; (with_reducible refine hK _ _ ?_); clear hK K; try simp only [Act.put,nA,nB,nC]
 with_reducible refine wpList_plain rfl ?_
 intro K hK
 go_simp
 refine (New_bad n _ w1 hw).mono ?_; rintro e w2 ⟨rfl, rfl⟩
 first | with_reducible refine hK _ _ ?_ | refine hK _ _ ?_
 clear hK K
 try simp only [Act.put,nA,nB,nC]
 iterate 5
  (with_reducible refine wpList_plain rfl ?_); intro K hK; go_simp; (with_reducible refine hK _ _ ?_); clear hK K; try simp only [Act.put,nA,nB,nC]
 have V1 := Lib.hid (hv.out.below' (by rw [HN.out]; exact B1.out))
 go_upto_region 3 with fail
 with_reducible refine wp_region_list ?_
 iterate 2
  (with_reducible refine wpList_plain rfl ?_); intro K hK; go_simp; (with_reducible refine hK _ _ ?_); clear hK K; try simp only [Act.put,nA,nB,nC]
 with_reducible refine wpList_plain rfl ?_
 intro K hK
 go_simp
 refine (keptTexts_any g cap _ l w1 N O1 V1 (fun hp e => by have := Hlt.out hp g e; have := HN.out; omega) l.length hl).mono ?_; rintro e w2 ⟨rfl, m2⟩
 first | with_reducible refine hK _ _ ?_ | refine hK _ _ ?_
 clear hK K
 try simp only [Act.put,nA,nB,nC]
 have B2 := Lib.hid (B1.out.trans (m2.below (n := N) (fun k hk e => by omega) (by have := B1.out.size; have := HN.out; omega)))
 clear m2 O1 B1 V1
 (with_reducible refine wpList_plain rfl ?_); intro K hK; go_simp; (with_reducible refine hK _ _ ?_); clear hK K; try simp only [Act.put,nA,nB,nC]
 go_wp2_with (go_at_call 22; refine (refRight_any _ _).mono ?_; rintro e w' ⟨rfl, rfl⟩; rw [hw.out])
 go_ret3
 exact ⟨rfl, by rw [HN.out]; exact B2.out⟩
set_option maxHeartbeats 4000000 in
theorem begun_full (wd : Nat) (hw1 : 1 ≤ wd) (hw2 : wd ≤ 32) (v : Value) (l : List ByteArray) (w : World) (hv : Hid (StrRow w v l)) (hl : l.length * 16 ≤ 140737488355240) (hbig : 1048576 < l.length) :
  Calls Try.prog 36 #[.int .i64 (wd : Int), v] w fun e w' => e = .returned (.tuple #[.pointer none, .slice none 0 0, .bool true]) ∧ Below w.heap.size w w' := by
 have hwb : wideB (wd : Int) = true := by simp [wideB]; omega
 have hw := Lib.hid hwb
 have hlt := hv.out.lt
 obtain ⟨ad, c, rfl, _⟩ := strRow_form hv.out
 have Hlt := Lib.hid hlt
 obtain ⟨N, hN⟩ : ∃ N, w.heap.size = N := ⟨_, rfl⟩
 have HN := Lib.hid hN
 have d1 : decide (1048576 < l.length) = true := decide_eq_true hbig
 have d2 : decide ((1048576 : Int) < (l.length : Int)) = true := decide_eq_true (by omega)
 clear hlt hN hwb
 go_enter Try.func36, Try.ntmps36
 go_upto_region 1 with fail
 with_reducible refine wp_region_list ?_
 (with_reducible refine wpList_plain rfl ?_); intro K hK; go_simp; (with_reducible refine hK _ _ ?_); clear hK K; try simp only [Act.put,nA,nB,nC]
 with_reducible refine wpList_plain rfl ?_
 intro K hK
 go_simp
 refine (lentTexts_any _ l w hv.out hl).mono ?_; rintro e w1 ⟨g, cap, rfl, o1, b1⟩
 first | with_reducible refine hK _ _ ?_ | refine hK _ _ ?_
 clear hK K
 try simp only [Act.put,nA,nB,nC]
 rw [HN.out] at o1 b1
 have hg1 := o1.lt g rfl
 have O1 := Lib.hid o1
 have B1 := Lib.hid b1
 clear o1 b1
 (with_reducible refine wpList_plain rfl ?_); intro K hK; go_simp; (with_reducible refine hK _ _ ?_); clear hK K; try simp only [Act.put,nA,nB,nC]
 go_upto_region 2 with fail
 with_reducible refine wp_region_list ?_
 iterate 2
  (with_reducible refine wpList_plain rfl ?_); intro K hK; go_simp; (with_reducible refine hK _ _ ?_); clear hK K; try simp only [Act.put,nA,nB,nC]
 with_reducible refine wpList_plain rfl ?_
 intro K hK
 go_simp
 refine (New_full wd _ l w1 hw1 hw2 (lent_row1 O1.out) hbig (by omega)).mono ?_; rintro e w2 ⟨rfl, b2⟩
 first | with_reducible refine hK _ _ ?_ | refine hK _ _ ?_
 clear hK K
 try simp only [Act.put,nA,nB,nC]
 have O2 := Lib.hid (O1.out.below b2 (fun k hk => (O1.out.lt k hk).2))
 have B2 := Lib.hid (B1.out.trans (b2.mono (by have := B1.out.size; have := HN.out; omega)))
 clear b2 O1 B1
 iterate 5
  (with_reducible refine wpList_plain rfl ?_); intro K hK; go_simp; (with_reducible refine hK _ _ ?_); clear hK K; try simp only [Act.put,nA,nB,nC]
 have V1 := Lib.hid (hv.out.below' (by rw [HN.out]; exact B2.out))
 go_upto_region 3 with fail
 with_reducible refine wp_region_list ?_
 iterate 2
  (with_reducible refine wpList_plain rfl ?_); intro K hK; go_simp; (with_reducible refine hK _ _ ?_); clear hK K; try simp only [Act.put,nA,nB,nC]
 with_reducible refine wpList_plain rfl ?_
 intro K hK
 go_simp
 refine (keptTexts_any g cap _ l w2 N O2 V1 (fun hp e => by have := Hlt.out hp g e; have := HN.out; omega) l.length hl).mono ?_; rintro e w3 ⟨rfl, m3⟩
 first | with_reducible refine hK _ _ ?_ | refine hK _ _ ?_
 clear hK K
 try simp only [Act.put,nA,nB,nC]
 have B3 := Lib.hid (B2.out.trans (m3.below (n := N) (fun k hk e => by omega) (by have := B2.out.size; have := HN.out; omega)))
 clear m3 O2 B2 V1
 (with_reducible refine wpList_plain rfl ?_); intro K hK; go_simp; (with_reducible refine hK _ _ ?_); clear hK K; try simp only [Act.put,nA,nB,nC]
 go_wp2_with (go_at_call 22; refine (refRight_any _ _).mono ?_; rintro e w' ⟨rfl, rfl⟩; rw [hw.out])
 go_ret3
 exact ⟨rfl, by rw [HN.out]; exact B3.out⟩
def BegunPost (w : World) (wd : Nat) (L : List Dg) (e : Ending) (w' : World) : Prop :=
 ∃ p b lv rv, e = .returned (.tuple #[.pointer (some ⟨p, 0, none⟩), rv, .bool true]) ∧ LogB w' w.heap.size p b lv wd L ∧ OwnR w' w.heap.size rv L ∧ (∀ g, rv.ownBlock = some g → g ≠ p ∧ g ≠ b ∧ lv.ownBlock ≠ some g) ∧ Below w.heap.size w w'
set_option maxRecDepth 4000 in
set_option maxHeartbeats 8000000 in
theorem begun_ok (wd : Nat) (hw1 : 1 ≤ wd) (hw2 : wd ≤ 32) (v : Value) (l : List ByteArray) (w : World) (hv : Hid (StrRow w v l)) (hll : l.length ≤ 1048576) (hsz : Hid (∀ s ∈ l, s.size ≤ 140737488351232)) :
  Calls Try.prog 36 #[.int .i64 (wd : Int), v] w (BegunPost w wd (l.map (leafD wd))) := by
 have hwb : wideB (wd : Int) = true := by simp [wideB]; omega
 have hw := Lib.hid hwb
 have hlt := hv.out.lt
 obtain ⟨ad, c, rfl, _⟩ := strRow_form hv.out
 have Hlt := Lib.hid hlt
 have HPo : Hid (∀ (w' : World) (p b : Nat) (lv rv : Value), LogB w' w.heap.size p b lv wd (l.map (leafD wd)) → OwnR w' w.heap.size rv (l.map (leafD wd)) → (∀ g, rv.ownBlock = some g → g ≠ p ∧ g ≠ b ∧ lv.ownBlock ≠ some g) → Below w.heap.size w w' → BegunPost w wd (l.map (leafD wd)) (.returned (.tuple #[.pointer (some ⟨p, 0, none⟩), rv, .bool true])) w') := fun w' p b lv rv h1 h2 h3 h4 => ⟨p, b, lv, rv, rfl, h1, h2, h3, h4⟩
 obtain ⟨R, hR⟩ : ∃ R, BegunPost w wd (l.map (leafD wd)) = R := ⟨_, rfl⟩
 rw [hR] at HPo ⊢
 obtain ⟨N, hN⟩ : ∃ N, w.heap.size = N := ⟨_, rfl⟩
 rw [hN] at HPo
 have HN := Lib.hid hN
 obtain ⟨L, hL⟩ : ∃ L, l.map (leafD wd) = L := ⟨_, rfl⟩
 rw [hL] at HPo
 have hLl : L.length = l.length := by rw [← hL, List.length_map]
 have hLa : All32 L := by
  rw [← hL]
  intro d hd
  obtain ⟨s, _, rfl⟩ := List.mem_map.1 hd
  exact leafD_length _ _
 have hLk : ∀ k (h : k < l.length) (h2 : k < L.length), L[k] = leafD wd l[k] := fun k h h2 => by
  subst hL
  rw [List.getElem_map]
 have HL := Lib.hid hL
 have HLl := Lib.hid hLl
 have HLa := Lib.hid hLa
 have HLk := Lib.hid hLk
 have d1 : decide (1048576 < l.length) = false := decide_eq_false (by omega)
 have d2 : decide ((1048576 : Int) < (l.length : Int)) = false := decide_eq_false (by omega)
 clear hlt hN hwb hR hL hLl hLa hLk
 go_enter Try.func36, Try.ntmps36
 go_upto_region 1 with fail
 with_reducible refine wp_region_list ?_
 (with_reducible refine wpList_plain rfl ?_); intro K hK; go_simp; (with_reducible refine hK _ _ ?_); clear hK K; try simp only [Act.put,nA,nB,nC]
 with_reducible refine wpList_plain rfl ?_
 intro K hK
 go_simp
 refine (lentTexts_any _ l w hv.out (by omega)).mono ?_; rintro e w1 ⟨g, cap, rfl, o1, b1⟩
 first | with_reducible refine hK _ _ ?_ | refine hK _ _ ?_
 clear hK K
 try simp only [Act.put,nA,nB,nC]
 rw [HN.out] at o1 b1
 have hg1 := o1.lt g rfl
 have O1 := Lib.hid o1
 have B1 := Lib.hid b1
 clear o1 b1
 (with_reducible refine wpList_plain rfl ?_); intro K hK; go_simp; (with_reducible refine hK _ _ ?_); clear hK K; try simp only [Act.put,nA,nB,nC]
 have hNz1 : N ≤ w1.heap.size := by have := B1.out.size; have := HN.out; omega
 go_upto_region 2 with fail
 with_reducible refine wp_region_list ?_
 iterate 2
  (with_reducible refine wpList_plain rfl ?_); intro K hK; go_simp; (with_reducible refine hK _ _ ?_); clear hK K; try simp only [Act.put,nA,nB,nC]
 with_reducible refine wpList_plain rfl ?_
 intro K hK
 go_simp
 refine (New_gen wd _ l w1 hw1 hw2 (lent_row1 O1.out) hll (Lib.hid (fun s h => by have := hsz.out s h; omega))).mono ?_; rintro e w2 ⟨p, b, lv, rfl, l2, b2⟩; rw [HL.out] at l2
 first | with_reducible refine hK _ _ ?_ | refine hK _ _ ?_
 clear hK K
 try simp only [Act.put,nA,nB,nC]
 have hp1 := l2.hp
 have hb1 := l2.hb
 have hlv1 : Hid (∀ k, lv.ownBlock = some k → w1.heap.size ≤ k) := fun k hk => (l2.leaves.lt k hk).1
 have L2 : Hid (LogB w2 N p b lv wd L) := ⟨l2.cells, l2.leaves.mono hNz1, l2.all, l2.map, by omega, by omega, l2.hpb, l2.hlp, l2.hlb, l2.len⟩
 have O2 := Lib.hid (O1.out.below b2 (fun k hk => (O1.out.lt k hk).2))
 have B2 := Lib.hid (B1.out.trans (b2.mono hNz1))
 have hz2 := b2.size
 have HPB : Hid (p < w2.heap.size ∧ b < w2.heap.size ∧ ∀ k, lv.ownBlock = some k → k < w2.heap.size) := ⟨l2.lt, l2.ltb, fun k hk => (l2.leaves.lt k hk).2⟩
 clear b2 l2 O1 B1
 iterate 5
  (with_reducible refine wpList_plain rfl ?_); intro K hK; go_simp; (with_reducible refine hK _ _ ?_); clear hK K; try simp only [Act.put,nA,nB,nC]
 have V1 := Lib.hid (hv.out.below' (by rw [HN.out]; exact B2.out))
 go_upto_region 3 with fail
 with_reducible refine wp_region_list ?_
 iterate 2
  (with_reducible refine wpList_plain rfl ?_); intro K hK; go_simp; (with_reducible refine hK _ _ ?_); clear hK K; try simp only [Act.put,nA,nB,nC]
 with_reducible refine wpList_plain rfl ?_
 intro K hK
 go_simp
 refine (keptTexts_any g cap _ l w2 N O2 V1 (fun hp e => by have := Hlt.out hp g e; have := HN.out; omega) l.length (by omega)).mono ?_; rintro e w3 ⟨rfl, m3⟩
 first | with_reducible refine hK _ _ ?_ | refine hK _ _ ?_
 clear hK K
 try simp only [Act.put,nA,nB,nC]
 have L3 := Lib.hid (L2.out.mod m3 (by omega) (by omega) (fun k hk e => by have := hlv1.out k hk; omega))
 have B3 := Lib.hid (B2.out.trans (m3.below (n := N) (fun k hk e => by omega) (by omega)))
 have hz3 := m3.size
 clear m3 O2 B2 V1 L2
 (with_reducible refine wpList_plain rfl ?_); intro K hK; go_simp; (with_reducible refine hK _ _ ?_); clear hK K; try simp only [Act.put,nA,nB,nC]
 go_upto_region 7 with (go_at_call 22; refine (refRight_any _ _).mono ?_; rintro e w' ⟨rfl, rfl⟩; rw [hw.out])
 go_upto_region 11 with fail
 clear d1 d2
 go_loopw [10, 11] (fun rv i wr => ∃ (k : Nat), k ≤ l.length ∧ Hid (OwnR wr N rv (L.take k)) ∧ Hid (LogB wr N p b lv wd L) ∧ Hid (Below N w wr) ∧ Hid (∀ h, rv.ownBlock = some h → w2.heap.size ≤ h) ∧ Hid (w2.heap.size ≤ wr.heap.size) ∧ i = .int .i64 (k : Int)) (fun _ i _ => l.length - (intOf i).toNat)
 case atStart => exact ⟨0, Nat.zero_le _, OwnR.nil _ _, L3, B3, fun h hh => by simp [Value.ownBlock] at hh, by show _ ≤ _; omega, rfl⟩
 case round =>
  obtain ⟨k, hk, HR, Lw, B, HG, HZ0, rfl⟩ := hrel
  clear L3 B3
  have hN2 : N ≤ w2.heap.size := by omega
  have hNr : N ≤ wr.heap.size := by have := B.out.size; have := HN.out; omega
  by_cases hlt : k < l.length
  case pos =>
   have dk : decide (k < l.length) = true := decide_eq_true hlt
   have dk2 : decide ((k : Int) < (l.length : Int)) = true := decide_eq_true (by omega)
   have ik : (k : Int) < (l.length : Int) := by omega
   have hkL : k < L.length := by rw [HLl.out]; exact hlt
   have hrow := hv.out.below' (by rw [HN.out]; exact B.out)
   obtain ⟨_, _, e1, hvs⟩ := strRow_form hrow
   have e2 := (Value.slice.inj e1).1
   obtain ⟨vb, vo, e3, hcs⟩ := hvs (by omega)
   rw [e3] at e2
   subst e2
   have hc := hcs k hlt
   have hsz2 := hsz.out l[k] (List.getElem_mem hlt)
   have hLk2 := HLk.out k hlt hkL
   have hnx : L.take (k + 1) = L.take k ++ [L[k]] := by rw [List.take_add_one, List.getElem?_eq_getElem hkL]; rfl
   obtain ⟨tx, htx⟩ : ∃ s, l[k] = s := ⟨_, rfl⟩
   rw [htx] at hc hsz2 hLk2
   obtain ⟨D, hD⟩ : ∃ D, L[k] = D := ⟨_, rfl⟩
   have hDl : D.length = 32 := by rw [← hD]; exact HLa.out _ (List.getElem_mem hkL)
   rw [hD] at hLk2 hnx
   have hrl : (L.take k).length = k := by rw [List.length_take, HLl.out]; omega
   have HLk3 : Hid (leafI (wd : Int) tx = D) := hLk2.symm
   have HNx := Lib.hid hnx
   have HDl := Lib.hid hDl
   have HSz := Lib.hid hsz2
   have HRl := Lib.hid hrl
   have HRa : Hid (All32 (L.take k)) := HLa.out.take k
   have HLe : Hid (leafE (wd : Int) = 0) := leafE_yes hw.out
   clear hcs hvs e1 e3 hrow hLk2 hnx hDl hsz2 hrl hD htx hkL
   go_upto_region 13 with fail
   with_reducible refine wp_region_list ?_
   iterate 5
    (with_reducible refine wpList_plain rfl ?_); intro K hK; go_simp; (with_reducible refine hK _ _ ?_); clear hK K; try simp only [Act.put,nA,nB,nC]
   with_reducible refine wpList_plain rfl ?_
   intro K hK
   go_simp
   refine (refLeaf_any wd tx wr HSz.out).mono ?_; rintro e wa ⟨rfl, ba⟩; rw [HLk3.out, HLe.out]
   first | with_reducible refine hK _ _ ?_ | refine hK _ _ ?_
   clear hK K
   try simp only [Act.put,nA,nB,nC]
   have Ra := Lib.hid (HR.out.below ba (fun g hg => (HR.out.lt g hg).2))
   have La := Lib.hid (Lw.out.below ba)
   have Ba := Lib.hid (B.out.trans (ba.mono (by omega)))
   have hza := ba.size
   clear ba HR Lw B hc
   iterate 3
    (with_reducible refine wpList_plain rfl ?_); intro K hK; go_simp; (with_reducible refine hK _ _ ?_); clear hK K; try simp only [Act.put,nA,nB,nC]
   obtain ⟨u, hu⟩ : ∃ u, wa.heap.size = u := ⟨_, rfl⟩
   refine wpList_allocD rfl rfl u hu ?_
   intro wb eb bb zb
   try simp only [Act.put,nA,nB,nC]
   refine wpList_storeD rfl _ _ rfl u rfl zeros32 D rfl HDl.out rfl eb ?_
   intro wc ec bc kc zc
   try simp only [Act.put,nA,nB,nC]
   (with_reducible refine wpList_plain rfl ?_); intro K hK; go_simp; (with_reducible refine hK _ _ ?_); clear hK K; try simp only [Act.put,nA,nB,nC]
   have bac : Below wa.heap.size wa wc := (bb.trans bc).mono (by omega)
   have Rc := Lib.hid (Ra.out.below bac (fun g hg => (Ra.out.lt g hg).2))
   have Lc := Lib.hid (La.out.below bac)
   have Bc := Lib.hid (Ba.out.trans (bac.mono (by omega)))
   have Dc := Lib.hid ec
   have zc' : wc.heap.size = u + 1 := by omega
   clear eb bb zb ec bc kc zc bac Ra La Ba
   go_upto_region 14 with fail
   with_reducible refine wp_region_list ?_
   (with_reducible refine wpList_plain rfl ?_); intro K hK; go_simp; (with_reducible refine hK _ _ ?_); clear hK K; try simp only [Act.put,nA,nB,nC]
   refine wpList_loadD rfl _ rfl u rfl D HDl.out Dc.out ?_
   try simp only [Act.put,nA,nB,nC]
   refine wpList_plain rfl (fun K hK => ?_)
   refine wp_slice1 _ rfl D HDl.out rfl (u + 1) zc' ?_
   intro wd1 ed bd zd
   refine hK _ _ ?_
   clear hK K
   try simp only [Act.put,nA,nB,nC]
   have hbd : Below wc.heap.size wc wd1 := by rw [zc']; exact bd
   have Rd := Lib.hid (Rc.out.below hbd (fun g hg => (Rc.out.lt g hg).2))
   have Ld := Lib.hid (Lc.out.below hbd)
   have Bd := Lib.hid (Bc.out.trans (hbd.mono (by omega)))
   clear bd hbd Rc Lc Bc Dc
   refine wpList_plain rfl (fun K hK => ?_)
   refine wp_appR wd1 D HDl.out _ _ rfl N _ (L.take k) rfl Rd.out HRa.out (u + 1) 1 rfl ed (by rw [HRl.out]; omega) (by omega) ?_
   intro g2 cap2 we ho hg2 hs2
   refine hK _ _ ?_
   clear hK K
   try simp only [Act.put,nA,nB,nC]
   rw [HRl.out] at ho ⊢
   have me := Mod.grown (S := fun k => u10.ownBlock = some k) hg2 (fun k e => e)
   have hpw : p < w2.heap.size ∧ b < w2.heap.size ∧ ∀ k, lv.ownBlock = some k → k < w2.heap.size := HPB.out
   have Re : Hid (OwnR we N (.slice (some ⟨g2, 0, none⟩) (k + 1) cap2) (L.take (k + 1))) := by show OwnR _ _ _ _; rw [HNx.out]; exact ho
   have Le := Lib.hid (Ld.out.mod me (fun e => by have := HG.out _ e; omega) (fun e => by have := HG.out _ e; omega) (fun k hk e => by have := HG.out _ e; have := hpw.2.2 k hk; omega))
   have Be := Lib.hid (Bd.out.trans (me.below (n := N) (fun k hk e => by have := HG.out _ e; omega) (by omega)))
   have HZe : Hid (w2.heap.size ≤ we.heap.size) := by show _ ≤ _; have := HZ0.out; have := me.size; omega
   have Ge : Hid (∀ h, (Value.slice (some ⟨g2, 0, none⟩) (k + 1) cap2).ownBlock = some h → w2.heap.size ≤ h) := fun g hg => by
    have e : g2 = g := Option.some.inj hg
    subst e
    rcases hs2 with h | h
    ·exact HG.out g2 h
    ·have := HZ0.out; omega
   clear ho hg2 hs2 me Rd Ld Bd ed hpw
   (with_reducible refine wpList_plain rfl ?_); intro K hK; go_simp; (with_reducible refine hK _ _ ?_); clear hK K; try simp only [Act.put,nA,nB,nC]
   go_wp2_with fail
   exact ⟨⟨k + 1, by omega, Re, Le, Be, Ge, HZe, by go_num⟩, by simp [intOf]; omega⟩
  case neg =>
   have dk : decide (k < l.length) = false := decide_eq_false hlt
   have dk2 : decide ((k : Int) < (l.length : Int)) = false := decide_eq_false (by omega)
   have hfull : L.take k = L := List.take_of_length_le (by rw [HLl.out]; omega)
   rw [hfull] at HR
   have hP := HPo.out wr p b lv u10 Lw.out HR.out (fun g hg => by
    have h1 := HG.out g hg
    have h2 := HPB.out
    exact ⟨by omega, by omega, fun e => by have := h2.2.2 g e; omega⟩) B.out
   have HP := Lib.hid hP
   clear hfull hP HG
   go_wp2_with fail
   go_ret3
   exact HP.out
end Go.Proofs.Ytihbhpggpnmifaa
namespace Go.Proofs.Ytihbhpggpnmifaa
open Go.RowKit Go.Lib Hw
def OwnW (w : World) (B : Nat) (v : Value) (xs : List Value) : Prop := w.ownsRow B 32 1 v xs.length xs
theorem infoW : (Try.prog.info? 32).map (fun i => (i.zero, i.size, i.bytes)) = some (some (.slice none 0 0), 1, 24) := by kernel_rfl
theorem OwnW.nil (w : World) (B : Nat) : OwnW w B (.slice none 0 0) [] := World.ownsRow_nil w B _ 1
theorem OwnW.lt {w : World} {B : Nat} {v : Value} {xs : List Value} (h : OwnW w B v xs) : ∀ g, v.ownBlock = some g → B ≤ g ∧ g < w.heap.size := World.ownsRow.lt h
theorem OwnW.heap {w w' : World} {B : Nat} {v : Value} {xs : List Value} (h : OwnW w B v xs) (hk : ∀ g, v.ownBlock = some g → w'.heap[g]? = w.heap[g]?) : OwnW w' B v xs := by
 refine ⟨h.1, ?_⟩
 rcases h.2 with hn | ⟨g, cap, cur, rfl, hB, hg, r⟩
 ·exact .inl hn
 ·exact .inr ⟨g, cap, cur, rfl, hB, (hk g rfl).trans hg, r⟩
theorem OwnW.mod {w w' : World} {S : Nat → Prop} {B : Nat} {v : Value} {xs : List Value} (h : OwnW w B v xs) (m : Mod S w w') (hd : ∀ k, v.ownBlock = some k → ¬ S k) : OwnW w' B v xs :=
 h.heap (fun g hg => m.block g (h.lt g hg).2 (hd g hg))
theorem OwnW.below {w w' : World} {B C : Nat} {v : Value} {xs : List Value} (h : OwnW w B v xs) (hb : Below C w w') (hC : ∀ g, v.ownBlock = some g → g < C) : OwnW w' B v xs := h.heap (fun g hg => hb.block g (hC g hg))
theorem OwnW.shape {w : World} {B : Nat} {v : Value} {xs : List Value} (h : OwnW w B v xs) : ∃ ad cap, v = .slice ad xs.length cap ∧ (0 < xs.length → ∃ g, ad = some ⟨g, 0, none⟩) := by
 rcases h.2 with ⟨rfl, h0⟩ | ⟨g, cap, cur, rfl, _⟩
 ·exact ⟨none, 0, by rw [h0], fun h => by omega⟩
 ·exact ⟨_, cap, rfl, fun _ => ⟨g, rfl⟩⟩
theorem OwnW.cell {w : World} {B g n cap : Nat} {xs : List Value} (h : OwnW w B (.slice (some ⟨g, 0, none⟩) n cap) xs) (j : Nat) (hj : j < xs.length) : w.cell? ⟨g, j, none⟩ = some xs[j] := by
 have h1 := World.ownsRow.cells (w := w) h (g := g) rfl j xs[j] (List.getElem?_eq_getElem hj)
 have hadd : (⟨g, 0, none⟩ : Addr).add j = ⟨g, j, none⟩ := by unfold Addr.add; split <;> simp_all
 rw [hadd] at h1
 exact h1
theorem wpList_appW2 {ops : Array Oper} {rest : List Oper} {o : Oper} {a : Act} {Q : Exit → Act → World → Prop} (W : World) (t : TypeId) (x y : Value) (hx1 : x.oneCell' = true) (hy1 : y.oneCell' = true) (hgd : o.guard = none) (s z : Operand)
  (ho : o.op = .call { callee := .builtin .append, args := #[s, z], argTypes := #[69, 69] })
  (B : Nat) (v : Value) (xs : List Value) (hs : a.eval s = v) (hown : OwnW W B v xs) (c : Nat) (hz : a.eval z = .slice (some ⟨W.heap.size, 0, none⟩) 2 c)
  (hlen : (xs.length + 2) * 24 ≤ 140737488355328) (hB : B ≤ W.heap.size)
  (h : ∀ v' w', OwnW w' B v' (xs ++ [x, y]) → Mod (fun k => v.ownBlock = some k) W w' → (∀ g, v'.ownBlock = some g → v.ownBlock = some g ∨ W.heap.size ≤ g) → wpList Try.prog ops Q rest (a.put o.dst v') w') :
  wpList Try.prog ops Q (o :: rest) a (W.alloc (.cells #[x, y] t)) := by
 obtain ⟨i, hi, hz0, hz1, hz2⟩ := info_parts infoW
 refine wpList_append_own_at _ hgd s z 69 ho B 32 i (.slice none 0 0) 1 24 Try.underlying69 hi hz0 hz1 hz2 rfl (by decide) v xs.length xs hs (World.ownsRow.alloc hown _) ⟨W.heap.size, 0, none⟩ 2 c [x, y] hz rfl ?_ (fun u hu => by
  rcases List.mem_cons.1 hu with rfl | hu
  ·exact hx1
  ·rw [List.mem_singleton.1 hu]; exact hy1) (by rw [maxLen_eq]; omega) hlen (by simp only [World.size_alloc]; omega) ?_
 ·exact World.news_of_block (heap_alloc_new W _)
 ·intro v' w' h1 h2 _ h4
  refine h v' w' ?_ ?_ ?_
  ·unfold OwnW
   rw [List.length_append]
   exact h1
  ·exact (Mod.of _ ((Below.refl _ _).alloc (Nat.le_refl _) _)).trans (Mod.grown (S := fun k => v.ownBlock = some k) h2 (fun k e => e)) (fun k hk e => e)
  ·intro g hg
   rcases h4 with h4 | h4
   ·left; rw [← h4]; exact hg
   ·right
    rw [h4] at hg
    have := Option.some.inj hg
    simp only [World.size_alloc] at this
    omega
end Go.Proofs.Ytihbhpggpnmifaa
namespace Go.Proofs.Ytihbhpggpnmifaa
open Go.RowKit Go.Lib Hw
def PB (W : World) (q : Nat) (c0 c1 c2 c3 c4 c5 tv wv : Value) : Prop := W.heap[q]? = some (.cells #[c0, c1, c2, c3, c4, c5, tv, wv] 71 (0, 0))
structure TW (W : World) (q B : Nat) (tv wv : Value) (ts ws : List Value) : Prop where
 t : OwnW W B tv ts
 w : OwnW W B wv ws
 tq : tv.ownBlock ≠ some q
 wq : wv.ownBlock ≠ some q
 tw : ∀ g, tv.ownBlock = some g → wv.ownBlock ≠ some g
theorem TW.mod {W W' : World} {q B : Nat} {tv wv : Value} {ts ws : List Value} {S : Nat → Prop} (h : TW W q B tv wv ts ws) (m : Mod S W W') (h1 : ∀ k, tv.ownBlock = some k → ¬ S k) (h2 : ∀ k, wv.ownBlock = some k → ¬ S k) : TW W' q B tv wv ts ws :=
 ⟨h.t.mod m h1, h.w.mod m h2, h.tq, h.wq, h.tw⟩
def TellPost (w : World) (q B : Nat) (c0 c1 c2 c3 c4 c5 tv wv : Value) (ts ws : List Value) (va vb vw : Value) (e : Ending) (w' : World) : Prop :=
 e = .returned (.bool true) ∧ ∃ tv' wv', PB w' q c0 c1 c2 c3 c4 c5 tv' wv' ∧ TW w' q B tv' wv' (ts ++ [va, vb]) (ws ++ [vw, vw]) ∧ Mod (fun k => k = q ∨ tv.ownBlock = some k ∨ wv.ownBlock = some k) w w' ∧
  (∀ g, tv'.ownBlock = some g → tv.ownBlock = some g ∨ w.heap.size ≤ g) ∧ (∀ g, wv'.ownBlock = some g → wv.ownBlock = some g ∨ w.heap.size ≤ g)
set_option maxHeartbeats 4000000 in
theorem tell_any (w : World) (q B : Nat) (c0 c1 c2 c3 c4 c5 tv wv : Value) (ts ws : List Value) (va vb vw : Value) (xs : List Dg) (hp : Hid (PB w q c0 c1 c2 c3 c4 c5 tv wv)) (ht : Hid (TW w q B tv wv ts ws)) (hqB : q < w.heap.size) (hB : B ≤ w.heap.size) (hA : Hid (All32 xs)) (hxl : xs.length ≤ 9223372036854775807)
  (ha : Hid (OwnR w B va xs)) (hb : Hid (OwnR w B vb xs)) (hw : Hid (OwnR w B vw xs)) (hd : Hid (∀ v, v = va ∨ v = vb ∨ v = vw → ∀ k, v.ownBlock = some k → k ≠ q ∧ tv.ownBlock ≠ some k ∧ wv.ownBlock ≠ some k)) (htl : ts.length ≤ 5000000000000) (hwl : ws.length ≤ 5000000000000) :
  Calls Try.prog 68 #[.pointer (some ⟨q, 0, none⟩), va, vb, vw] w (TellPost w q B c0 c1 c2 c3 c4 c5 tv wv ts ws va vb vw) := by
 obtain ⟨tad, tcap, htv, _⟩ := ht.out.t.shape
 obtain ⟨wad, wcap, hwv, _⟩ := ht.out.w.shape
 obtain ⟨aad, acap, hva, _⟩ := ha.out.shape
 obtain ⟨bad, bcap, hvb, _⟩ := hb.out.shape
 obtain ⟨wad2, wcap2, hvw, _⟩ := hw.out.shape
 obtain ⟨T, hT⟩ : ∃ T, ts.length = T := ⟨_, rfl⟩
 obtain ⟨U, hU⟩ : ∃ U, ws.length = U := ⟨_, rfl⟩
 obtain ⟨n, hn⟩ : ∃ n, xs.length = n := ⟨_, rfl⟩
 rw [hT] at htv htl
 rw [hU] at hwv hwl
 rw [hn] at hva hvb hvw
 have HT := Lib.hid hT
 have HU := Lib.hid hU
 have Hn := Lib.hid hn
 clear hT hU hn
 subst htv; subst hwv; subst hva; subst hvb; subst hvw
 have f6 := heap_cell hp.out (o := 6)
 go_enter Try.func68, Try.ntmps68
 go_upto_region 1 with fail
 with_reducible refine wp_region_list ?_
 iterate 8
  (with_reducible refine wpList_plain rfl ?_); intro K hK; go_simp; (with_reducible refine hK _ _ ?_); clear hK K; try simp only [Act.put,nA,nB,nC]
 refine wpList_appW2 w 32 _ _ rfl rfl rfl _ _ rfl B (.slice tad T tcap) ts rfl ht.out.t _ rfl (by rw [HT.out]; omega) hB ?_
 intro v1 w1 o1 m1 n1
 obtain ⟨a1, cap1, hv1, _⟩ := o1.shape
 obtain ⟨T2, hT2⟩ : ∃ x, (ts ++ [Value.slice aad n acap, Value.slice bad n bcap]).length = x := ⟨_, rfl⟩
 rw [hT2] at hv1
 subst hv1
 clear hT2
 try simp only [Act.put,nA,nB,nC]
 have P1 : PB w1 q c0 c1 c2 c3 c4 c5 (.slice tad T tcap) (.slice wad U wcap) := m1.heap hp.out ht.out.tq
 have c7 := heap_cell P1 (o := 6)
 have f7 := heap_free P1 6
 have P2 : PB (w1.setCell ⟨q, 6, none⟩ (.slice a1 T2 cap1)) q c0 c1 c2 c3 c4 c5 (.slice a1 T2 cap1) (.slice wad U wcap) := heap_set (o := 6) P1 _
 have m2 : Mod (fun k => k = q) w1 (w1.setCell ⟨q, 6, none⟩ (.slice a1 T2 cap1)) := Mod.set (S := fun k => k = q) (o := 6) w1 rfl _
 have hz1 := m1.size
 have nq : (Value.slice a1 T2 cap1).ownBlock ≠ some q := fun e => (n1 q e).elim ht.out.tq (fun h => by omega)
 have M2 : Hid (Mod (fun k => k = q ∨ (Value.slice tad T tcap).ownBlock = some k ∨ (Value.slice wad U wcap).ownBlock = some k) w (w1.setCell ⟨q, 6, none⟩ (.slice a1 T2 cap1))) := (m1.mono (fun k hk e => .inr (.inl e))).then (m2.mono (fun k hk e => .inl e))
 have O2 := Lib.hid (o1.mod m2 (fun k hk e => nq (by rw [hk, e])))
 have W2 := Lib.hid ((ht.out.w.mod m1 (fun k hk e => ht.out.tw k e hk)).mod m2 (fun k hk e => ht.out.wq (by rw [hk, e])))
 have A2 := Lib.hid ((ha.out.mod m1 (fun k hk e => (hd.out _ (.inl rfl) k hk).2.1 e)).mod m2 (fun k hk e => (hd.out _ (.inl rfl) k hk).1 e))
 have B2 := Lib.hid ((hb.out.mod m1 (fun k hk e => (hd.out _ (.inr (.inl rfl)) k hk).2.1 e)).mod m2 (fun k hk e => (hd.out _ (.inr (.inl rfl)) k hk).1 e))
 have D2 := Lib.hid ((hw.out.mod m1 (fun k hk e => (hd.out _ (.inr (.inr rfl)) k hk).2.1 e)).mod m2 (fun k hk e => (hd.out _ (.inr (.inr rfl)) k hk).1 e))
 have NQ := Lib.hid nq
 have N1 := Lib.hid n1
 have HP2 := Lib.hid P2
 have hz2 := m2.size
 clear o1 m1 n1 P1 P2 m2 nq f6
 iterate 3
  (with_reducible refine wpList_plain rfl ?_); intro K hK; go_simp; (with_reducible refine hK _ _ ?_); clear hK K; try simp only [Act.put,nA,nB,nC]
 obtain ⟨w2, hw2⟩ : ∃ W, w1.setCell ⟨q, 6, none⟩ (.slice a1 T2 cap1) = W := ⟨_, rfl⟩
 rw [hw2] at M2 O2 W2 A2 B2 D2 HP2 hz2 ⊢
 clear hw2 c7 f7 hz1
 have hzw : w.heap.size ≤ w2.heap.size := M2.out.size
 have f7 := heap_cell HP2.out (o := 7)
 go_upto_region 2 with fail
 with_reducible refine wp_region_list ?_
 iterate 8
  (with_reducible refine wpList_plain rfl ?_); intro K hK; go_simp; (with_reducible refine hK _ _ ?_); clear hK K; try simp only [Act.put,nA,nB,nC]
 refine wpList_appW2 w2 32 _ _ rfl rfl rfl _ _ rfl B (.slice wad U wcap) ws rfl W2.out _ rfl (by rw [HU.out]; omega) (by have := M2.out.size; omega) ?_
 intro v3 w3 o3 m3 n3
 obtain ⟨a3, cap3, hv3, _⟩ := o3.shape
 obtain ⟨U2, hU2⟩ : ∃ x, (ws ++ [Value.slice wad2 n wcap2, Value.slice wad2 n wcap2]).length = x := ⟨_, rfl⟩
 rw [hU2] at hv3
 subst hv3
 clear hU2
 try simp only [Act.put,nA,nB,nC]
 have P3 : PB w3 q c0 c1 c2 c3 c4 c5 (.slice a1 T2 cap1) (.slice wad U wcap) := m3.heap HP2.out ht.out.wq
 have c8 := heap_cell P3 (o := 7)
 have f8 := heap_free P3 7
 have P4 : PB (w3.setCell ⟨q, 7, none⟩ (.slice a3 U2 cap3)) q c0 c1 c2 c3 c4 c5 (.slice a1 T2 cap1) (.slice a3 U2 cap3) := heap_set (o := 7) P3 _
 have m4 : Mod (fun k => k = q) w3 (w3.setCell ⟨q, 7, none⟩ (.slice a3 U2 cap3)) := Mod.set (S := fun k => k = q) (o := 7) w3 rfl _
 have hz3 := m3.size
 have nq : (Value.slice a3 U2 cap3).ownBlock ≠ some q := fun e => (n3 q e).elim ht.out.wq (fun h => by omega)
 have m24 : Mod (fun k => k = q ∨ (Value.slice wad U wcap).ownBlock = some k) w2 (w3.setCell ⟨q, 7, none⟩ (.slice a3 U2 cap3)) := (m3.mono (fun k hk e => .inr e)).then (m4.mono (fun k hk e => .inl e))
 have M4 : Hid (Mod (fun k => k = q ∨ (Value.slice tad T tcap).ownBlock = some k ∨ (Value.slice wad U wcap).ownBlock = some k) w (w3.setCell ⟨q, 7, none⟩ (.slice a3 U2 cap3))) := M2.out.then (m24.mono (fun k hk e => e.elim .inl (fun e => .inr (.inr e))))
 have hO4 : ∀ k, (Value.slice a1 T2 cap1).ownBlock = some k → ¬ (k = q ∨ (Value.slice wad U wcap).ownBlock = some k) := fun k hk e => e.elim (fun e => NQ.out (by rw [hk, e])) (fun e => (N1.out k hk).elim (fun h => ht.out.tw k h e) (fun h => by have := (ht.out.w.lt k e).2; omega))
 have O4 := Lib.hid (O2.out.mod m24 hO4)
 have W4 := Lib.hid (o3.mod m4 (fun k hk e => nq (by rw [hk, e])))
 have A4 := Lib.hid (A2.out.mod m24 (fun k hk e => e.elim (hd.out _ (.inl rfl) k hk).1 (hd.out _ (.inl rfl) k hk).2.2))
 have B4 := Lib.hid (B2.out.mod m24 (fun k hk e => e.elim (hd.out _ (.inr (.inl rfl)) k hk).1 (hd.out _ (.inr (.inl rfl)) k hk).2.2))
 have D4 := Lib.hid (D2.out.mod m24 (fun k hk e => e.elim (hd.out _ (.inr (.inr rfl)) k hk).1 (hd.out _ (.inr (.inr rfl)) k hk).2.2))
 have hz4 := m24.size
 have TW4 : Hid (∀ g, (Value.slice a1 T2 cap1).ownBlock = some g → (Value.slice a3 U2 cap3).ownBlock ≠ some g) := fun g hg e => (n3 g e).elim (fun h => hO4 g hg (.inr h)) (fun h => by have := (O2.out.lt g hg).2; omega)
 have NQ4 := Lib.hid nq
 have N3 := Lib.hid n3
 have HP4 := Lib.hid P4
 clear o3 m3 n3 P3 P4 m4 nq f7 m24 hO4 O2 W2 A2 B2 D2 HP2 M2
 iterate 3
  (with_reducible refine wpList_plain rfl ?_); intro K hK; go_simp; (with_reducible refine hK _ _ ?_); clear hK K; try simp only [Act.put,nA,nB,nC]
 obtain ⟨w4, hw4⟩ : ∃ W, w3.setCell ⟨q, 7, none⟩ (.slice a3 U2 cap3) = W := ⟨_, rfl⟩
 rw [hw4] at M4 O4 W4 A4 B4 D4 HP4 hz4 ⊢
 clear hw4 c8 f8
 have DA := Lib.hid (A4.out.drow hA.out hxl)
 have DD := Lib.hid (D4.out.drow hA.out hxl)
 go_upto_region 3 with fail
 with_reducible refine wp_region_list ?_
 iterate 2
  (with_reducible refine wpList_plain rfl ?_); intro K hK; go_simp; (with_reducible refine hK _ _ ?_); clear hK K; try simp only [Act.put,nA,nB,nC]
 with_reducible refine wpList_plain rfl ?_
 intro K hK
 go_simp
 refine (Same_any _ _ xs w4 _ _ DA DD).mono ?_; rintro e w5 ⟨rfl, b5⟩
 first | with_reducible refine hK _ _ ?_ | refine hK _ _ ?_
 clear hK K
 try simp only [Act.put,nA,nB,nC]
 have DB := Lib.hid ((B4.out.below b5 (fun g hg => (B4.out.lt g hg).2)).drow hA.out hxl)
 have DE := Lib.hid ((D4.out.below b5 (fun g hg => (D4.out.lt g hg).2)).drow hA.out hxl)
 (with_reducible refine wpList_plain rfl ?_); intro K hK; go_simp; (with_reducible refine hK _ _ ?_); clear hK K; try simp only [Act.put,nA,nB,nC]
 iterate 2
  (with_reducible refine wpList_step ?_); intro K hK; rw [if_pos (by rfl)]; go_simp; (with_reducible refine hK _ _ ?_); clear hK K; try simp only [Act.put,nA,nB,nC]
 with_reducible refine wpList_step ?_
 intro K hK
 rw [if_pos (by rfl)]
 go_simp
 refine (Same_any _ _ xs w5 _ _ DB DE).mono ?_; rintro e w6 ⟨rfl, b6⟩
 first | with_reducible refine hK _ _ ?_ | refine hK _ _ ?_
 clear hK K
 try simp only [Act.put,nA,nB,nC]
 have hb6 := b5.trans (b6.mono b5.size)
 have hqz : q < w4.heap.size := heap_lt HP4.out
 have P6 := Lib.hid (show PB w6 q c0 c1 c2 c3 c4 c5 _ _ from heap_below HP4.out hb6 hqz)
 have O6 := Lib.hid (O4.out.below hb6 (fun g hg => (O4.out.lt g hg).2))
 have W6 := Lib.hid (W4.out.below hb6 (fun g hg => (W4.out.lt g hg).2))
 have M6 := Lib.hid (M4.out.then (Mod.of _ hb6))
 clear b5 b6 hb6 DA DD DB DE O4 W4 A4 B4 D4 HP4 M4
 iterate 2
  (with_reducible refine wpList_plain rfl ?_); intro K hK; go_simp; (with_reducible refine hK _ _ ?_); clear hK K; try simp only [Act.put,nA,nB,nC]
 go_wp2_with fail
 go_ret
 exact ⟨rfl, _, _, P6.out, ⟨O6.out, W6.out, NQ.out, NQ4.out, TW4.out⟩, M6.out, N1.out, fun g hg => (N3.out g hg).elim .inl (fun h => .inr (by omega))⟩
end Go.Proofs.Ytihbhpggpnmifaa
namespace Go.Proofs.Ytihbhpggpnmifaa
open Go.RowKit Go.Lib Hw
def stepV (d who : Int) (texts digs : Value) (n s : Nat) : Value := .agg #[.int .i64 d, .int .i64 who, texts, digs, .int .u64 (n : Int), .int .u64 (s : Int)]
structure PR (W : World) (q off : Nat) (cs : List Value) (B p b : Nat) (lv rv : Value) (wd : Nat) (L : List Dg) : Prop where
 blk : W.heap[q]? = some (.cells cs.toArray 71 (0, 0))
 len : cs.length = 8
 c0 : cs[off]? = some (.pointer (some ⟨p, 0, none⟩))
 c1 : cs[off + 1]? = some (.int .i64 (wd : Int))
 c2 : cs[off + 2]? = some rv
 log : LogB W B p b lv wd L
 row : OwnR W B rv L
 qp : q ≠ p
 qb : q ≠ b
 ql : lv.ownBlock ≠ some q
 qr : rv.ownBlock ≠ some q
 rp : rv.ownBlock ≠ some p
 rb : rv.ownBlock ≠ some b
 rl : ∀ g, rv.ownBlock = some g → lv.ownBlock ≠ some g
section
variable {W W' : World} {q off : Nat} {cs : List Value} {B p b : Nat} {lv rv : Value} {wd : Nat} {L : List Dg}
theorem PR.cell (h : PR W q off cs B p b lv rv wd L) (i : Nat) (v : Value) (hv : cs[i]? = some v) : W.cell? ⟨q, i, none⟩ = some v := by
 rw [heap_cell h.blk, List.getElem?_toArray]
 exact hv
theorem PR.low (h : PR W q off cs B p b lv rv wd L) (hb : Below W.heap.size W W') : PR W' q off cs B p b lv rv wd L :=
 ⟨heap_below h.blk hb (heap_lt h.blk), h.len, h.c0, h.c1, h.c2, h.log.below hb, h.row.below hb (fun g hg => (h.row.lt g hg).2), h.qp, h.qb, h.ql, h.qr, h.rp, h.rb, h.rl⟩
end
set_option maxRecDepth 20000 in
set_option maxHeartbeats 4000000 in
theorem step_6 (w : World) (q off : Nat) (cs : List Value) (B p b : Nat) (lv rv : Value) (wd : Nat) (L : List Dg) (who : Int) (texts digs : Value) (n s : Nat) (h : Hid (PR w q off cs B p b lv rv wd L)) (hw : 1 ≤ wd) :
  Calls Try.prog 37 #[.pointer (some ⟨q, 0, none⟩), .pointer (some ⟨q, off, none⟩), stepV 6 who texts digs n s] w fun e w' => e = .returned (.bool true) ∧ Below w.heap.size w w' := by
 obtain ⟨rad, rcap, hrv, _⟩ := h.out.row.shape
 have f0 := h.out.cell off _ h.out.c0
 have f1 := h.out.cell (off + 1) _ h.out.c1
 have f2 := h.out.cell (off + 2) _ h.out.c2
 subst hrv
 have hLl := h.out.log.len
 obtain ⟨N, hN⟩ : ∃ N, w.heap.size = N := ⟨_, rfl⟩
 have HN := Lib.hid hN
 rw [hN]
 clear hN
 unfold stepV
 go_enter Try.func37, Try.ntmps37
 go_upto_region 0 with fail
 with_reducible refine wp_region_list ?_
 refine wpList_boxB rfl _ _ rfl N HN.out #[.int .i64 6, .int .i64 who, texts, digs, .int .u64 (n : Int), .int .u64 (s : Int)] rfl ?_
 intro w0 e0 b0 z0
 try simp only [Act.put,nA,nB,nC]
 (with_reducible refine wpList_plain rfl ?_); intro K hK; go_simp; (with_reducible refine hK _ _ ?_); clear hK K; try simp only [Act.put,nA,nB,nC]
 have H0 := Lib.hid (h.out.low (by rw [HN.out]; exact b0))
 have B0 := Lib.hid b0
 have g0 := H0.out.cell off _ H0.out.c0
 have g1 := H0.out.cell (off + 1) _ H0.out.c1
 have g2 := H0.out.cell (off + 2) _ H0.out.c2
 have s0 := heap_cell e0 (o := 0)
 clear f0 f1 f2 h b0
 have LD : Hid (LogB w0.drew B p b lv wd L) := H0.out.log.drew
 have wL := IntWalk.u64_in (L.length : Int) (by omega)
 go_upto_region 46 with fail
 clear g2 s0 e0
 refine wp_region_held_drew (S := fun W => W.cell? ⟨q, off, none⟩ = some (.pointer (some ⟨p, 0, none⟩)) ∧ W.cell? ⟨q, off + 1, none⟩ = some (.int .i64 (wd : Int))) (by kernel_rfl) ⟨g0, g1⟩ (fun hHeld => ?_)
 refine' tQ 0 ⟨some 404, .move (.tmp 1), 72, "law.go:129", #[], none⟩ rfl (by kernel_rfl) (Or.inl ⟨by rfl, _⟩) _; rotate_left; · (intro s h; (try dsimp only at h); go_simp; try with_reducible rfl)
 try simp only [Act.put,nA,nB,nC]
 refine' tQ 1 ⟨some 405, .nilCheck (.tmp 404), 0, "law.go:129", #[⟨0, .data⟩], none⟩ rfl (by kernel_rfl) (Or.inl ⟨by rfl, _⟩) _; rotate_left; · (intro s h; (try dsimp only at h); go_simp; try with_reducible rfl)
 try simp only [Act.put,nA,nB,nC]
 refine' tQ 2 ⟨some 406, .fieldAddr 68 (.tmp 405) 0, 0, "law.go:129", #[⟨1, .data⟩], none⟩ rfl (by kernel_rfl) (Or.inl ⟨by rfl, _⟩) _; rotate_left; · (intro s h; (try dsimp only at h); go_simp; try with_reducible rfl)
 try simp only [Act.put,nA,nB,nC]
 refine' tQ 3 ⟨some 407, .load 40 (.tmp 406), 40, "law.go:129", #[⟨2, .data⟩], none⟩ rfl (by kernel_rfl) (Or.inl ⟨by rfl, _⟩) _; rotate_left; · (intro s h; (try dsimp only at h); go_simp; try with_reducible rfl)
 try simp only [Act.put,nA,nB,nC]
 refine' tQ 5 ⟨some 409, .move (.tmp 1), 72, "law.go:129", #[], none⟩ rfl (by kernel_rfl) (Or.inl ⟨by rfl, _⟩) _; rotate_left; · (intro s h; (try dsimp only at h); go_simp; try with_reducible rfl)
 try simp only [Act.put,nA,nB,nC]
 refine' tQ 6 ⟨some 410, .nilCheck (.tmp 409), 0, "law.go:129", #[⟨5, .data⟩], none⟩ rfl (by kernel_rfl) (Or.inl ⟨by rfl, _⟩) _; rotate_left; · (intro s h; (try dsimp only at h); go_simp; try with_reducible rfl)
 try simp only [Act.put,nA,nB,nC]
 refine' tQ 7 ⟨some 411, .fieldAddr 68 (.tmp 410) 1, 0, "law.go:129", #[⟨6, .data⟩], none⟩ rfl (by kernel_rfl) (Or.inl ⟨by rfl, _⟩) _; rotate_left; · (intro s h; (try dsimp only at h); go_simp; try with_reducible rfl)
 try simp only [Act.put,nA,nB,nC]
 refine' tQ 8 ⟨some 412, .load 3 (.tmp 411), 3, "law.go:129", #[⟨7, .data⟩], none⟩ rfl (by kernel_rfl) (Or.inl ⟨by rfl, _⟩) _; rotate_left; · (intro s h; (try dsimp only at h); go_simp; try with_reducible rfl)
 try simp only [Act.put,nA,nB,nC]
 refine wpAnyH_ready (rs := [4]) (by kernel_rfl) (by simp) ?_
 refine AllReadyH.cons (o := ⟨some 408, .call ⟨.value (.func 40), #[.tmp 407], #[40]⟩, 3, "law.go:129", #[⟨3, .data⟩], none⟩) rfl (fun K hK => ?_) AllReadyH.nil
 (go_simp; (go_at_call 40; refine (Width_log _ B p b _ wd L LD hw).mono ?_; rintro e w2 ⟨rfl, rfl⟩))
 refine hK.out _ _ ?_ (fun hHeld => ?_)
 ·exact hHeld
 clear hK K
 try simp only [Act.put,nA,nB,nC]
 refine' tQ 9 ⟨some 413, .binOp .eql 3 (.tmp 408) (.tmp 412) 3, 4, "law.go:129", #[⟨4, .data⟩, ⟨8, .data⟩], none⟩ rfl (by kernel_rfl) (Or.inl ⟨by rfl, _⟩) _; rotate_left; · (intro s h; (try dsimp only at h); go_simp; try with_reducible rfl)
 try simp only [Act.put,nA,nB,nC]
 refine' tQ 10 ⟨some 414, .move (.tmp 413), 4, "law.go:129", #[⟨9, .data⟩, ⟨4, .chain⟩], none⟩ rfl (by kernel_rfl) (Or.inl ⟨by rfl, _⟩) _; rotate_left; · (intro s h; (try dsimp only at h); go_simp; try with_reducible rfl)
 try simp only [Act.put,nA,nB,nC]
 refine' tQ 11 ⟨some 415, .move (.tmp 1), 72, "law.go:129", #[⟨10, .guard⟩], some (10, true)⟩ rfl (by kernel_rfl) (Or.inl ⟨by rfl, _⟩) _; rotate_left; · (intro s h; (try dsimp only at h); go_simp; try with_reducible rfl)
 try simp only [Act.put,nA,nB,nC]
 refine' tQ 12 ⟨some 416, .nilCheck (.tmp 415), 0, "law.go:129", #[⟨11, .data⟩, ⟨10, .guard⟩], some (10, true)⟩ rfl (by kernel_rfl) (Or.inl ⟨by rfl, _⟩) _; rotate_left; · (intro s h; (try dsimp only at h); go_simp; try with_reducible rfl)
 try simp only [Act.put,nA,nB,nC]
 refine' tQ 13 ⟨some 417, .fieldAddr 68 (.tmp 416) 0, 0, "law.go:129", #[⟨12, .data⟩, ⟨10, .guard⟩], some (10, true)⟩ rfl (by kernel_rfl) (Or.inl ⟨by rfl, _⟩) _; rotate_left; · (intro s h; (try dsimp only at h); go_simp; try with_reducible rfl)
 try simp only [Act.put,nA,nB,nC]
 refine' tQ 14 ⟨some 418, .load 40 (.tmp 417), 40, "law.go:129", #[⟨13, .data⟩, ⟨10, .guard⟩], some (10, true)⟩ rfl (by kernel_rfl) (Or.inl ⟨by rfl, _⟩) _; rotate_left; · (intro s h; (try dsimp only at h); go_simp; try with_reducible rfl)
 try simp only [Act.put,nA,nB,nC]
 refine' tQ 16 ⟨some 420, .move (.tmp 7), 29, "law.go:129", #[⟨10, .guard⟩], some (10, true)⟩ rfl (by kernel_rfl) (Or.inl ⟨by rfl, _⟩) _; rotate_left; · (intro s h; (try dsimp only at h); go_simp; try with_reducible rfl)
 try simp only [Act.put,nA,nB,nC]
 refine wpAnyH_ready (rs := [15]) (by kernel_rfl) (by simp) ?_
 refine AllReadyH.cons (o := ⟨some 419, .call ⟨.value (.func 41), #[.tmp 418], #[40]⟩, 29, "law.go:129", #[⟨14, .data⟩, ⟨10, .chain⟩, ⟨10, .guard⟩], some (10, true)⟩) rfl (fun K hK => ?_) AllReadyH.nil
 (go_simp; (go_at_call 41; refine (Size_log _ B p b _ wd L LD hw).mono ?_; rintro e w2 ⟨rfl, rfl⟩))
 refine hK.out _ _ ?_ (fun hHeld => ?_)
 ·exact hHeld
 clear hK K
 try simp only [Act.put,nA,nB,nC]
 refine' tQ 17 ⟨some 421, .binOp .eql 29 (.tmp 419) (.tmp 420) 29, 4, "law.go:129", #[⟨15, .data⟩, ⟨16, .data⟩, ⟨10, .guard⟩], some (10, true)⟩ rfl (by kernel_rfl) (Or.inl ⟨by rfl, _⟩) _; rotate_left; · (intro s h; (try dsimp only at h); go_simp; try with_reducible rfl)
 try simp only [Act.put,nA,nB,nC]
 refine' tQ 18 ⟨some 422, .pick (.tmp 414) (.tmp 421) (.const (.bool false)), 4, "law.go:129", #[⟨10, .data⟩, ⟨17, .data⟩], none⟩ rfl (by kernel_rfl) (Or.inl ⟨by rfl, _⟩) _; rotate_left; · (intro s h; (try dsimp only at h); go_simp; try with_reducible rfl)
 try simp only [Act.put,nA,nB,nC]
 refine' tQ 19 ⟨some 6, .assign (.tmp 422), 4, "law.go:129", #[⟨18, .data⟩, ⟨15, .chain⟩, ⟨0, .phase⟩, ⟨1, .phase⟩, ⟨2, .phase⟩, ⟨3, .phase⟩, ⟨4, .phase⟩, ⟨5, .phase⟩, ⟨6, .phase⟩, ⟨7, .phase⟩, ⟨8, .phase⟩, ⟨9, .phase⟩, ⟨10, .phase⟩, ⟨11, .phase⟩, ⟨12, .phase⟩, ⟨13, .phase⟩, ⟨14, .phase⟩, ⟨15, .phase⟩, ⟨16, .phase⟩, ⟨17, .phase⟩, ⟨18, .phase⟩], none⟩ rfl (by kernel_rfl) (Or.inl ⟨by rfl, _⟩) _; rotate_left; · (intro s h; (try dsimp only at h); go_simp; try with_reducible rfl)
 try simp only [Act.put,nA,nB,nC]
 refine wpAnyH_done (by kernel_rfl) ?_ _
 clear hHeld
 go_wp2_with fail
 go_ret
 exact ⟨rfl, B0.out.drew⟩
end Go.Proofs.Ytihbhpggpnmifaa
