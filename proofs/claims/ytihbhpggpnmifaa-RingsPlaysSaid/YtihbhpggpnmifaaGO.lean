/-
 The walks of Since's closure.
-/
import Derived.Test.YtihbhpggpnmifaaGN
set_option linter.unusedSimpArgs false
set_option linter.unusedVariables false
namespace Go.Proofs.Ytihbhpggpnmifaa
open Go.RowKit Go.Lib Hw
def upS (N : Nat) : Value := .func (.func 58) #[] #[.pointer (some ⟨N + 1, 0, none⟩), .pointer (some ⟨N, 0, none⟩), .pointer (some ⟨N + 2, 0, none⟩)]
set_option maxHeartbeats 1000000 in
theorem since_whole (B p b : Nat) (lv : Value) (wd : Nat) (L : List Dg) (N a n : Nat) (ov : Value) (O : List Dg) (w : World) (h : Hid (TB w B p b lv wd L N ov O (upS N) 104)) :
  Calls Try.prog 58 #[.int .i64 (a : Int), .int .i64 (n : Int), .int .i64 (n : Int), .bool true, .pointer (some ⟨N + 1, 0, none⟩), .pointer (some ⟨N, 0, none⟩), .pointer (some ⟨N + 2, 0, none⟩)] w (TrailPost w B p b lv wd L N ov O [] (upS N) 104) := by
 go_enter Try.func58, Try.ntmps58
 go_wp2_with fail
 refine bodyPost_ret (results_none rfl _ _ _) rfl ⟨rfl, ov, ?_, Mod.refl _ _, fun g hg => .inl hg⟩
 rw [List.append_nil]
 exact h.out
set_option maxHeartbeats 4000000 in
theorem since_part (B p b : Nat) (lv : Value) (wd : Nat) (L : List Dg) (N a n : Nat) (ov3 : Value) (O : List Dg) (w : World) (h : Hid (TB w B p b lv wd L N ov3 O (upS N) 104)) (hn : 1 ≤ n) (han : a + n ≤ L.length) (hwd : wd ≤ 32) (hO : O.length + n ≤ 100000000) :
  Calls Try.prog 58 #[.int .i64 (a : Int), .int .i64 (n : Int), .int .i64 (n : Int), .bool false, .pointer (some ⟨N + 1, 0, none⟩), .pointer (some ⟨N, 0, none⟩), .pointer (some ⟨N + 2, 0, none⟩)] w (TrailPost w B p b lv wd L N ov3 O [spanD wd L a n] (upS N) 104) := by
 have hDl := spanD_length wd L a n h.out.log.all (by omega)
 have hra := fun W (hl : LogB W B p b lv wd L) => ring_any wd hwd B p b lv L n a W hl (by omega)
 obtain ⟨D, hD⟩ : ∃ D, spanD wd L a n = D := ⟨_, rfl⟩
 rw [hD] at hDl hra ⊢
 have HRa := Lib.hid hra
 have HDl := Lib.hid hDl
 obtain ⟨R, hR⟩ : ∃ R, [D] = R := ⟨_, rfl⟩
 rw [hR]
 have HR := Lib.hid hR
 have HS3 : Hid (∀ (g : Nat), ov3.ownBlock = some g → ov3.ownBlock = some g ∨ w.heap.size ≤ g) := fun g hg => .inl hg
 clear hD hra hDl hR
 go_enter Try.func58, Try.ntmps58
 go_upto_region 2 with fail
 have T0 := Lib.hid h.out.drew
 have M0 : Hid (Mod (fun k => k = b ∨ k = N + 1 ∨ ov3.ownBlock = some k) w w.drew) := (Mod.refl _ _).drew
 have cl0 := h.out.cl
 refine wp_region_held_drew (S := fun W => W.cell? ⟨N, 0, none⟩ = some (.pointer (some ⟨p, 0, none⟩))) (by kernel_rfl) cl0 (fun hHeld => ?_)
 clear cl0
 refine' tQ 1 ⟨some 18, .load 40 (.tmp 5), 40, "rings.go:187", #[], none⟩ rfl (by kernel_rfl) (Or.inl ⟨by rfl, _⟩) _; rotate_left; · (intro s h; (try dsimp only at h); go_simp; try with_reducible rfl)
 try simp only [Act.put,nA,nB,nC]
 refine' tQ 2 ⟨some 19, .move (.tmp 0), 3, "rings.go:187", #[], none⟩ rfl (by kernel_rfl) (Or.inl ⟨by rfl, _⟩) _; rotate_left; · (intro s h; (try dsimp only at h); go_simp; try with_reducible rfl)
 try simp only [Act.put,nA,nB,nC]
 refine' tQ 3 ⟨some 20, .move (.tmp 2), 3, "rings.go:187", #[], none⟩ rfl (by kernel_rfl) (Or.inl ⟨by rfl, _⟩) _; rotate_left; · (intro s h; (try dsimp only at h); go_simp; try with_reducible rfl)
 try simp only [Act.put,nA,nB,nC]
 refine wpAnyH_ready (rs := [0, 4]) (by kernel_rfl) (by simp) ?_
 refine (AllReadyH.cons (o := ⟨some 17, .load 32 (.tmp 4), 32, "rings.go:187", #[], none⟩) rfl (fun K hK => ?_) (AllReadyH.cons (o := ⟨some 21, .call ⟨.value (.func 56), #[.tmp 18, .tmp 19, .tmp 20], #[40, 3, 3]⟩, 23, "rings.go:187", #[⟨1, .data⟩, ⟨2, .data⟩, ⟨3, .data⟩], none⟩) rfl (fun K hK => ?_) AllReadyH.nil))
 ·have co := T0.out.co
  go_simp
  refine hK.out _ _ ?_ (fun hHeld => ?_)
  ·exact hHeld
  clear hK K co
  try simp only [Act.put,nA,nB,nC]
  refine wpAnyH_ready (rs := [4]) (by kernel_rfl) (by simp) ?_
  refine (AllReadyH.cons (o := ⟨some 21, .call ⟨.value (.func 56), #[.tmp 18, .tmp 19, .tmp 20], #[40, 3, 3]⟩, 23, "rings.go:187", #[⟨1, .data⟩, ⟨2, .data⟩, ⟨3, .data⟩], none⟩) rfl (fun K hK => ?_) AllReadyH.nil)
  go_simp
  go_at_call 56
  refine (HRa.out _ T0.out.log).mono ?_
  rintro e yr ⟨rfl, hl, hm⟩
  have Tr := Lib.hid (T0.out.ring hl hm)
  have Mr := Lib.hid (M0.out.trans hm (fun i hi e => .inl e))
  have hzr := hm.size
  refine hK.out _ _ ?_ (fun hHeld => ?_)
  ·exact Tr.out.cl
  clear hK K hl hm T0 M0
  try simp only [Act.put,nA,nB,nC]
  refine wpAnyH_ready (rs := [5]) (by kernel_rfl) (by simp) ?_
  refine (AllReadyH.cons (o := ⟨some 22, .buildSlice 32 1 #[(0, .tmp 21)], 32, "rings.go:187", #[⟨4, .data⟩], none⟩) rfl (fun K hK => ?_) AllReadyH.nil)
  set_option maxRecDepth 20000 in
  refine step_of rfl (wp_slice1 _ rfl D HDl.out rfl yr.heap.size rfl ?_)
  intro ys es bs zs
  have Ts := Lib.hid (Tr.out.below bs)
  have Ms := Lib.hid (Mr.out.then (Mod.of _ bs))
  refine hK.out _ _ ?_ (fun hHeld => ?_)
  ·exact Ts.out.cl
  clear hK K bs Tr Mr
  try simp only [Act.put,nA,nB,nC]
  refine wpAnyH_ready (rs := [6]) (by kernel_rfl) (by simp) ?_
  refine AllReadyH.cons (o := ⟨some 23, .call ⟨.builtin .append, #[.tmp 17, .tmp 22], #[32, 32]⟩, 32, "rings.go:187", #[⟨0, .data⟩, ⟨5, .data⟩, ⟨4, .chain⟩], none⟩) rfl (fun K hK => ?_) AllReadyH.nil
  (set_option maxRecDepth 20000 in refine step_of rfl (wp_appR ys D HDl.out _ _ rfl (N + 3) ov3 O rfl Ts.out.own Ts.out.all yr.heap.size 1 rfl es (by omega) (by have := Ts.out.big; omega) ?_); intro g2 cap2 w7 ho7 hg7 hs7; obtain ⟨nn, hnn⟩ : ∃ nn, List.length O + 1 = nn := ⟨_, rfl⟩; rw [hnn] at ho7 ⊢; clear hnn; have m7 : Mod (fun k => ov3.ownBlock = some k) ys w7 := Mod.grown hg7 (fun k e => e); have hne7 : ∀ k, k < N + 3 → ¬ ov3.ownBlock = some k := fun k hk e => by have := (Ts.out.own.lt k e).1; omega)
  refine hK.out _ _ ?_ (fun hHeld => ?_)
  ·(rw [heap_cell (m7.heap Ts.out.bl (hne7 N (by omega)))]; rfl)
  clear hK K
  try simp only [Act.put,nA,nB,nC]
  have o7 := m7.heap Ts.out.bo (hne7 (N + 1) (by omega))
  have c7 := heap_one o7
  have f7 := heap_free o7 0
  have T8 := Lib.hid (Ts.out.app hg7 ho7 HDl.out)
  have hzs := Ms.out.size
  have M8 : Hid (Mod (fun k => k = b ∨ k = N + 1 ∨ ov3.ownBlock = some k) w (w7.setCell ⟨N + 1, 0, none⟩ (.slice (some ⟨g2, 0, none⟩) nn cap2))) :=
   (Ms.out.trans m7 (fun i hi e => by rcases HS3.out _ e with h1 | h1; exact .inr (.inr h1); omega)).then (Mod.set (p := N + 1) (o := 0) w7 (.inr (.inl rfl)) _)
  have O8 : Hid (∀ g, (Value.slice (some ⟨g2, 0, none⟩) nn cap2).ownBlock = some g → ov3.ownBlock = some g ∨ w.heap.size ≤ g) := fun g hg => by
   obtain rfl : g2 = g := Option.some.inj hg
   rcases hs7 with h1 | h1
   ·exact HS3.out _ h1
   ·right; omega
  refine wpAnyH_ready (rs := [7]) (by kernel_rfl) (by simp) ?_
  refine AllReadyH.cons (o := ⟨none, .store 32 (.tmp 4) (.tmp 23), 0, "rings.go:187", #[⟨6, .data⟩, ⟨6, .chain⟩, ⟨0, .phase⟩, ⟨1, .phase⟩, ⟨2, .phase⟩, ⟨3, .phase⟩, ⟨4, .phase⟩, ⟨5, .phase⟩, ⟨6, .phase⟩], none⟩) rfl (fun K hK => ?_) AllReadyH.nil
  go_simp
  refine hK.out _ _ ?_ (fun hHeld => ?_)
  ·exact T8.out.cl
  clear hK K
  try simp only [Act.put,nA,nB,nC]
  refine wpAnyH_done (by kernel_rfl) ?_ _
  rw [HR.out] at T8
  clear hHeld m7 hg7 ho7 hs7 c7 f7 o7 hne7 es Ts Ms
  go_wp2_with fail
  exact bodyPost_ret (results_none rfl _ _ _) rfl ⟨rfl, _, T8.out, M8.out, O8.out⟩
 ·go_simp
  go_at_call 56
  refine (HRa.out _ T0.out.log).mono ?_
  rintro e yr ⟨rfl, hl, hm⟩
  have Tr := Lib.hid (T0.out.ring hl hm)
  have Mr := Lib.hid (M0.out.trans hm (fun i hi e => .inl e))
  have hzr := hm.size
  refine hK.out _ _ ?_ (fun hHeld => ?_)
  ·exact Tr.out.cl
  clear hK K hl hm T0 M0
  try simp only [Act.put,nA,nB,nC]
  refine wpAnyH_ready (rs := [0, 5]) (by kernel_rfl) (by simp) ?_
  refine (AllReadyH.cons (o := ⟨some 17, .load 32 (.tmp 4), 32, "rings.go:187", #[], none⟩) rfl (fun K hK => ?_) (AllReadyH.cons (o := ⟨some 22, .buildSlice 32 1 #[(0, .tmp 21)], 32, "rings.go:187", #[⟨4, .data⟩], none⟩) rfl (fun K hK => ?_) AllReadyH.nil))
  ·have co := Tr.out.co
   go_simp
   refine hK.out _ _ ?_ (fun hHeld => ?_)
   ·exact hHeld
   clear hK K co
   try simp only [Act.put,nA,nB,nC]
   refine wpAnyH_ready (rs := [5]) (by kernel_rfl) (by simp) ?_
   refine (AllReadyH.cons (o := ⟨some 22, .buildSlice 32 1 #[(0, .tmp 21)], 32, "rings.go:187", #[⟨4, .data⟩], none⟩) rfl (fun K hK => ?_) AllReadyH.nil)
   set_option maxRecDepth 20000 in
   refine step_of rfl (wp_slice1 _ rfl D HDl.out rfl yr.heap.size rfl ?_)
   intro ys es bs zs
   have Ts := Lib.hid (Tr.out.below bs)
   have Ms := Lib.hid (Mr.out.then (Mod.of _ bs))
   refine hK.out _ _ ?_ (fun hHeld => ?_)
   ·exact Ts.out.cl
   clear hK K bs Tr Mr
   try simp only [Act.put,nA,nB,nC]
   refine wpAnyH_ready (rs := [6]) (by kernel_rfl) (by simp) ?_
   refine AllReadyH.cons (o := ⟨some 23, .call ⟨.builtin .append, #[.tmp 17, .tmp 22], #[32, 32]⟩, 32, "rings.go:187", #[⟨0, .data⟩, ⟨5, .data⟩, ⟨4, .chain⟩], none⟩) rfl (fun K hK => ?_) AllReadyH.nil
   (set_option maxRecDepth 20000 in refine step_of rfl (wp_appR ys D HDl.out _ _ rfl (N + 3) ov3 O rfl Ts.out.own Ts.out.all yr.heap.size 1 rfl es (by omega) (by have := Ts.out.big; omega) ?_); intro g2 cap2 w7 ho7 hg7 hs7; obtain ⟨nn, hnn⟩ : ∃ nn, List.length O + 1 = nn := ⟨_, rfl⟩; rw [hnn] at ho7 ⊢; clear hnn; have m7 : Mod (fun k => ov3.ownBlock = some k) ys w7 := Mod.grown hg7 (fun k e => e); have hne7 : ∀ k, k < N + 3 → ¬ ov3.ownBlock = some k := fun k hk e => by have := (Ts.out.own.lt k e).1; omega)
   refine hK.out _ _ ?_ (fun hHeld => ?_)
   ·(rw [heap_cell (m7.heap Ts.out.bl (hne7 N (by omega)))]; rfl)
   clear hK K
   try simp only [Act.put,nA,nB,nC]
   have o7 := m7.heap Ts.out.bo (hne7 (N + 1) (by omega))
   have c7 := heap_one o7
   have f7 := heap_free o7 0
   have T8 := Lib.hid (Ts.out.app hg7 ho7 HDl.out)
   have hzs := Ms.out.size
   have M8 : Hid (Mod (fun k => k = b ∨ k = N + 1 ∨ ov3.ownBlock = some k) w (w7.setCell ⟨N + 1, 0, none⟩ (.slice (some ⟨g2, 0, none⟩) nn cap2))) :=
    (Ms.out.trans m7 (fun i hi e => by rcases HS3.out _ e with h1 | h1; exact .inr (.inr h1); omega)).then (Mod.set (p := N + 1) (o := 0) w7 (.inr (.inl rfl)) _)
   have O8 : Hid (∀ g, (Value.slice (some ⟨g2, 0, none⟩) nn cap2).ownBlock = some g → ov3.ownBlock = some g ∨ w.heap.size ≤ g) := fun g hg => by
    obtain rfl : g2 = g := Option.some.inj hg
    rcases hs7 with h1 | h1
    ·exact HS3.out _ h1
    ·right; omega
   refine wpAnyH_ready (rs := [7]) (by kernel_rfl) (by simp) ?_
   refine AllReadyH.cons (o := ⟨none, .store 32 (.tmp 4) (.tmp 23), 0, "rings.go:187", #[⟨6, .data⟩, ⟨6, .chain⟩, ⟨0, .phase⟩, ⟨1, .phase⟩, ⟨2, .phase⟩, ⟨3, .phase⟩, ⟨4, .phase⟩, ⟨5, .phase⟩, ⟨6, .phase⟩], none⟩) rfl (fun K hK => ?_) AllReadyH.nil
   go_simp
   refine hK.out _ _ ?_ (fun hHeld => ?_)
   ·exact T8.out.cl
   clear hK K
   try simp only [Act.put,nA,nB,nC]
   refine wpAnyH_done (by kernel_rfl) ?_ _
   rw [HR.out] at T8
   clear hHeld m7 hg7 ho7 hs7 c7 f7 o7 hne7 es Ts Ms
   go_wp2_with fail
   exact bodyPost_ret (results_none rfl _ _ _) rfl ⟨rfl, _, T8.out, M8.out, O8.out⟩
  ·set_option maxRecDepth 20000 in
   refine step_of rfl (wp_slice1 _ rfl D HDl.out rfl yr.heap.size rfl ?_)
   intro ys es bs zs
   have Ts := Lib.hid (Tr.out.below bs)
   have Ms := Lib.hid (Mr.out.then (Mod.of _ bs))
   refine hK.out _ _ ?_ (fun hHeld => ?_)
   ·exact Ts.out.cl
   clear hK K bs Tr Mr
   try simp only [Act.put,nA,nB,nC]
   refine wpAnyH_ready (rs := [0]) (by kernel_rfl) (by simp) ?_
   refine (AllReadyH.cons (o := ⟨some 17, .load 32 (.tmp 4), 32, "rings.go:187", #[], none⟩) rfl (fun K hK => ?_) AllReadyH.nil)
   have co := Ts.out.co
   go_simp
   refine hK.out _ _ ?_ (fun hHeld => ?_)
   ·exact hHeld
   clear hK K co
   try simp only [Act.put,nA,nB,nC]
   refine wpAnyH_ready (rs := [6]) (by kernel_rfl) (by simp) ?_
   refine AllReadyH.cons (o := ⟨some 23, .call ⟨.builtin .append, #[.tmp 17, .tmp 22], #[32, 32]⟩, 32, "rings.go:187", #[⟨0, .data⟩, ⟨5, .data⟩, ⟨4, .chain⟩], none⟩) rfl (fun K hK => ?_) AllReadyH.nil
   (set_option maxRecDepth 20000 in refine step_of rfl (wp_appR ys D HDl.out _ _ rfl (N + 3) ov3 O rfl Ts.out.own Ts.out.all yr.heap.size 1 rfl es (by omega) (by have := Ts.out.big; omega) ?_); intro g2 cap2 w7 ho7 hg7 hs7; obtain ⟨nn, hnn⟩ : ∃ nn, List.length O + 1 = nn := ⟨_, rfl⟩; rw [hnn] at ho7 ⊢; clear hnn; have m7 : Mod (fun k => ov3.ownBlock = some k) ys w7 := Mod.grown hg7 (fun k e => e); have hne7 : ∀ k, k < N + 3 → ¬ ov3.ownBlock = some k := fun k hk e => by have := (Ts.out.own.lt k e).1; omega)
   refine hK.out _ _ ?_ (fun hHeld => ?_)
   ·(rw [heap_cell (m7.heap Ts.out.bl (hne7 N (by omega)))]; rfl)
   clear hK K
   try simp only [Act.put,nA,nB,nC]
   have o7 := m7.heap Ts.out.bo (hne7 (N + 1) (by omega))
   have c7 := heap_one o7
   have f7 := heap_free o7 0
   have T8 := Lib.hid (Ts.out.app hg7 ho7 HDl.out)
   have hzs := Ms.out.size
   have M8 : Hid (Mod (fun k => k = b ∨ k = N + 1 ∨ ov3.ownBlock = some k) w (w7.setCell ⟨N + 1, 0, none⟩ (.slice (some ⟨g2, 0, none⟩) nn cap2))) :=
    (Ms.out.trans m7 (fun i hi e => by rcases HS3.out _ e with h1 | h1; exact .inr (.inr h1); omega)).then (Mod.set (p := N + 1) (o := 0) w7 (.inr (.inl rfl)) _)
   have O8 : Hid (∀ g, (Value.slice (some ⟨g2, 0, none⟩) nn cap2).ownBlock = some g → ov3.ownBlock = some g ∨ w.heap.size ≤ g) := fun g hg => by
    obtain rfl : g2 = g := Option.some.inj hg
    rcases hs7 with h1 | h1
    ·exact HS3.out _ h1
    ·right; omega
   refine wpAnyH_ready (rs := [7]) (by kernel_rfl) (by simp) ?_
   refine AllReadyH.cons (o := ⟨none, .store 32 (.tmp 4) (.tmp 23), 0, "rings.go:187", #[⟨6, .data⟩, ⟨6, .chain⟩, ⟨0, .phase⟩, ⟨1, .phase⟩, ⟨2, .phase⟩, ⟨3, .phase⟩, ⟨4, .phase⟩, ⟨5, .phase⟩, ⟨6, .phase⟩], none⟩) rfl (fun K hK => ?_) AllReadyH.nil
   go_simp
   refine hK.out _ _ ?_ (fun hHeld => ?_)
   ·exact T8.out.cl
   clear hK K
   try simp only [Act.put,nA,nB,nC]
   refine wpAnyH_done (by kernel_rfl) ?_ _
   rw [HR.out] at T8
   clear hHeld m7 hg7 ho7 hs7 c7 f7 o7 hne7 es Ts Ms
   go_wp2_with fail
   exact bodyPost_ret (results_none rfl _ _ _) rfl ⟨rfl, _, T8.out, M8.out, O8.out⟩
set_option maxHeartbeats 8000000 in
theorem since_left (B p b : Nat) (lv : Value) (wd : Nat) (L : List Dg) (N a i n : Nat) (wh : Bool) (ov : Value) (O : List Dg) (w : World) (h : Hid (TB w B p b lv wd L N ov O (upS N) 104)) (hn : 2 ≤ n) (han : a + n ≤ L.length) (hi0 : 1 ≤ i) (hin : i < n) (hi : i ≤ halfN n) (hwd : wd ≤ 32) (hO : O.length + n ≤ 100000000)
  (ih : Calls Try.prog 58 #[.int .i64 (a : Int), .int .i64 (i : Int), .int .i64 (halfN n : Int), .bool wh, .pointer (some ⟨N + 1, 0, none⟩), .pointer (some ⟨N, 0, none⟩), .pointer (some ⟨N + 2, 0, none⟩)] w (TrailPost w B p b lv wd L N ov O (sinceP wd L a i (halfN n) wh) (upS N) 104))
  (hlen : (sinceP wd L a i (halfN n) wh).length ≤ halfN n) :
  Calls Try.prog 58 #[.int .i64 (a : Int), .int .i64 (i : Int), .int .i64 (n : Int), .bool wh, .pointer (some ⟨N + 1, 0, none⟩), .pointer (some ⟨N, 0, none⟩), .pointer (some ⟨N + 2, 0, none⟩)] w (TrailPost w B p b lv wd L N ov O (sinceP wd L a i n wh) (upS N) 104) := by
 have hs := half_spec hn
 have hLl := h.out.log.len
 have hcl := sinceP_left wd L a i n wh hi0 hin hi
 have hDl := spanD_length wd L (a + halfN n) (n - halfN n) h.out.log.all (by omega)
 obtain ⟨k, hk⟩ : ∃ k, halfN n = k := ⟨_, rfl⟩
 rw [hk] at hs hi ih hlen hcl hDl
 obtain ⟨P, hP⟩ : ∃ P, sinceP wd L a i k wh = P := ⟨_, rfl⟩
 have hra := fun W (hl : LogB W B p b lv wd L) => ring_any wd hwd B p b lv L (n - k) (a + k) W hl (by omega)
 obtain ⟨D, hD⟩ : ∃ D, spanD wd L (a + k) (n - k) = D := ⟨_, rfl⟩
 rw [hP] at ih hlen hcl
 rw [hD] at hcl hDl hra
 rw [hcl]
 have IH := Lib.hid ih
 have HK := Lib.hid hk
 have HRa := Lib.hid hra
 have HDl := Lib.hid hDl
 obtain ⟨R, hR⟩ : ∃ R, P ++ [D] = R := ⟨_, rfl⟩
 rw [hR]
 have HR := Lib.hid hR
 clear ih hk hP hD hcl hra hDl hR
 have hlt : (i : Int) ≤ (k : Int) := by omega
 have dlt : decide (i ≤ k) = true := decide_eq_true hi
 have n1 : ((i : Int) == (n : Int)) = false := by simp; omega
 have n2 : (i == n) = false := by simp; omega
 have n3 : decide (i = n) = false := by simp; omega
 have cu := h.out.cu
 unfold upS at cu
 go_enter Try.func58, Try.ntmps58
 go_upto_region 5 with (go_at_call 52; refine (half_any n _ hn (by omega)).mono ?_; rintro e w2 ⟨rfl, rfl⟩; rw [HK.out])
 refine wp_region_list ?_
 iterate 5
  (refine wpList_plain rfl (fun K hK => ?_)); go_simp; refine hK _ _ ?_; clear hK K; try simp only [Act.put,nA,nB,nC]
 refine wpList_plain rfl (fun K hK => ?_)
 go_simp
 refine IH.out.mono ?_; rintro e w3 ⟨rfl, ov3, T3, M3, hs3⟩
 refine hK _ _ ?_
 clear hK K
 try simp only [Act.put,nA,nB,nC]
 have HS3 := Lib.hid hs3
 have T3' := Lib.hid T3
 have M3' := Lib.hid M3
 have hz3 := M3.size
 clear T3 M3 hs3 cu
 have hbig := T3'.out.big
 obtain ⟨ak, hak⟩ : ∃ ak, a + k = ak := ⟨_, rfl⟩
 obtain ⟨nk, hnk⟩ : ∃ nk, n - k = nk := ⟨_, rfl⟩
 have ea : IntKind.i64.wrap ((a : Int) + (k : Int)) = (ak : Int) := by rw [IntWalk.i64_in _ (by omega)]; omega
 have en : IntKind.i64.wrap ((n : Int) - (k : Int)) = (nk : Int) := by rw [IntWalk.i64_in _ (by omega)]; omega
 rw [hak, hnk] at HRa
 clear hak hnk
 go_upto_region 6 with fail
 have T0 := Lib.hid T3'.out.drew
 have M0 : Hid (Mod (fun k => k = b ∨ k = N + 1 ∨ ov.ownBlock = some k) w w3.drew) := M3'.out.drew
 have cl0 := T3'.out.cl
 refine wp_region_held_drew (S := fun W => W.cell? ⟨N, 0, none⟩ = some (.pointer (some ⟨p, 0, none⟩))) (by kernel_rfl) cl0 (fun hHeld => ?_)
 clear T3' M3' cl0
 refine' tQ 1 ⟨some 36, .load 40 (.tmp 5), 40, "rings.go:194", #[], none⟩ rfl (by kernel_rfl) (Or.inl ⟨by rfl, _⟩) _; rotate_left; · (intro s h; (try dsimp only at h); go_simp; try with_reducible rfl)
 try simp only [Act.put,nA,nB,nC]
 refine' tQ 2 ⟨some 37, .move (.tmp 0), 3, "rings.go:194", #[], none⟩ rfl (by kernel_rfl) (Or.inl ⟨by rfl, _⟩) _; rotate_left; · (intro s h; (try dsimp only at h); go_simp; try with_reducible rfl)
 try simp only [Act.put,nA,nB,nC]
 refine' tQ 3 ⟨some 38, .move (.tmp 11), 3, "rings.go:194", #[], none⟩ rfl (by kernel_rfl) (Or.inl ⟨by rfl, _⟩) _; rotate_left; · (intro s h; (try dsimp only at h); go_simp; try with_reducible rfl)
 try simp only [Act.put,nA,nB,nC]
 refine' tQ 4 ⟨some 39, .binOp .add 3 (.tmp 37) (.tmp 38) 3, 3, "rings.go:194", #[⟨2, .data⟩, ⟨3, .data⟩], none⟩ rfl (by kernel_rfl) (Or.inl ⟨by rfl, _⟩) _; rotate_left; · (intro s h; (try dsimp only at h); go_simp; try with_reducible rfl)
 try simp only [Act.put,nA,nB,nC]
 refine' tQ 5 ⟨some 40, .move (.tmp 2), 3, "rings.go:194", #[], none⟩ rfl (by kernel_rfl) (Or.inl ⟨by rfl, _⟩) _; rotate_left; · (intro s h; (try dsimp only at h); go_simp; try with_reducible rfl)
 try simp only [Act.put,nA,nB,nC]
 refine' tQ 6 ⟨some 41, .move (.tmp 11), 3, "rings.go:194", #[], none⟩ rfl (by kernel_rfl) (Or.inl ⟨by rfl, _⟩) _; rotate_left; · (intro s h; (try dsimp only at h); go_simp; try with_reducible rfl)
 try simp only [Act.put,nA,nB,nC]
 refine' tQ 7 ⟨some 42, .binOp .sub 3 (.tmp 40) (.tmp 41) 3, 3, "rings.go:194", #[⟨5, .data⟩, ⟨6, .data⟩], none⟩ rfl (by kernel_rfl) (Or.inl ⟨by rfl, _⟩) _; rotate_left; · (intro s h; (try dsimp only at h); go_simp; try with_reducible rfl)
 try simp only [Act.put,nA,nB,nC]
 clear ea en
 refine wpAnyH_ready (rs := [0, 8]) (by kernel_rfl) (by simp) ?_
 refine (AllReadyH.cons (o := ⟨some 35, .load 32 (.tmp 4), 32, "rings.go:194", #[], none⟩) rfl (fun K hK => ?_) (AllReadyH.cons (o := ⟨some 43, .call ⟨.value (.func 56), #[.tmp 36, .tmp 39, .tmp 42], #[40, 3, 3]⟩, 23, "rings.go:194", #[⟨1, .data⟩, ⟨4, .data⟩, ⟨7, .data⟩], none⟩) rfl (fun K hK => ?_) AllReadyH.nil))
 ·have co := T0.out.co
  go_simp
  refine hK.out _ _ ?_ (fun hHeld => ?_)
  ·exact hHeld
  clear hK K co
  try simp only [Act.put,nA,nB,nC]
  refine wpAnyH_ready (rs := [8]) (by kernel_rfl) (by simp) ?_
  refine (AllReadyH.cons (o := ⟨some 43, .call ⟨.value (.func 56), #[.tmp 36, .tmp 39, .tmp 42], #[40, 3, 3]⟩, 23, "rings.go:194", #[⟨1, .data⟩, ⟨4, .data⟩, ⟨7, .data⟩], none⟩) rfl (fun K hK => ?_) AllReadyH.nil)
  go_simp
  go_at_call 56
  refine (HRa.out _ T0.out.log).mono ?_
  rintro e yr ⟨rfl, hl, hm⟩
  have Tr := Lib.hid (T0.out.ring hl hm)
  have Mr := Lib.hid (M0.out.trans hm (fun i hi e => .inl e))
  have hzr := hm.size
  refine hK.out _ _ ?_ (fun hHeld => ?_)
  ·exact Tr.out.cl
  clear hK K hl hm T0 M0
  try simp only [Act.put,nA,nB,nC]
  refine wpAnyH_ready (rs := [9]) (by kernel_rfl) (by simp) ?_
  refine (AllReadyH.cons (o := ⟨some 44, .buildSlice 32 1 #[(0, .tmp 43)], 32, "rings.go:194", #[⟨8, .data⟩], none⟩) rfl (fun K hK => ?_) AllReadyH.nil)
  set_option maxRecDepth 20000 in
  refine step_of rfl (wp_slice1 _ rfl D HDl.out rfl yr.heap.size rfl ?_)
  intro ys es bs zs
  have Ts := Lib.hid (Tr.out.below bs)
  have Ms := Lib.hid (Mr.out.then (Mod.of _ bs))
  refine hK.out _ _ ?_ (fun hHeld => ?_)
  ·exact Ts.out.cl
  clear hK K bs Tr Mr
  try simp only [Act.put,nA,nB,nC]
  refine wpAnyH_ready (rs := [10]) (by kernel_rfl) (by simp) ?_
  refine AllReadyH.cons (o := ⟨some 45, .call ⟨.builtin .append, #[.tmp 35, .tmp 44], #[32, 32]⟩, 32, "rings.go:194", #[⟨0, .data⟩, ⟨9, .data⟩, ⟨8, .chain⟩], none⟩) rfl (fun K hK => ?_) AllReadyH.nil
  (set_option maxRecDepth 20000 in refine step_of rfl (wp_appR ys D HDl.out _ _ rfl (N + 3) ov3 (O ++ P) rfl Ts.out.own Ts.out.all yr.heap.size 1 rfl es (by rw [List.length_append]; omega) (by have := Ts.out.big; omega) ?_); intro g2 cap2 w7 ho7 hg7 hs7; obtain ⟨nn, hnn⟩ : ∃ nn, (O ++ P).length + 1 = nn := ⟨_, rfl⟩; rw [hnn] at ho7 ⊢; clear hnn; have m7 : Mod (fun k => ov3.ownBlock = some k) ys w7 := Mod.grown hg7 (fun k e => e); have hne7 : ∀ k, k < N + 3 → ¬ ov3.ownBlock = some k := fun k hk e => by have := (Ts.out.own.lt k e).1; omega)
  refine hK.out _ _ ?_ (fun hHeld => ?_)
  ·(rw [heap_cell (m7.heap Ts.out.bl (hne7 N (by omega)))]; rfl)
  clear hK K
  try simp only [Act.put,nA,nB,nC]
  have o7 := m7.heap Ts.out.bo (hne7 (N + 1) (by omega))
  have c7 := heap_one o7
  have f7 := heap_free o7 0
  have T8 := Lib.hid (Ts.out.app hg7 ho7 HDl.out)
  have hzs := Ms.out.size
  have M8 : Hid (Mod (fun k => k = b ∨ k = N + 1 ∨ ov.ownBlock = some k) w (w7.setCell ⟨N + 1, 0, none⟩ (.slice (some ⟨g2, 0, none⟩) nn cap2))) :=
   (Ms.out.trans m7 (fun i hi e => by rcases HS3.out _ e with h1 | h1; exact .inr (.inr h1); omega)).then (Mod.set (p := N + 1) (o := 0) w7 (.inr (.inl rfl)) _)
  have O8 : Hid (∀ g, (Value.slice (some ⟨g2, 0, none⟩) nn cap2).ownBlock = some g → ov.ownBlock = some g ∨ w.heap.size ≤ g) := fun g hg => by
   obtain rfl : g2 = g := Option.some.inj hg
   rcases hs7 with h1 | h1
   ·exact HS3.out _ h1
   ·right; omega
  refine wpAnyH_ready (rs := [11]) (by kernel_rfl) (by simp) ?_
  refine AllReadyH.cons (o := ⟨none, .store 32 (.tmp 4) (.tmp 45), 0, "rings.go:194", #[⟨10, .data⟩, ⟨10, .chain⟩, ⟨0, .phase⟩, ⟨1, .phase⟩, ⟨2, .phase⟩, ⟨3, .phase⟩, ⟨4, .phase⟩, ⟨5, .phase⟩, ⟨6, .phase⟩, ⟨7, .phase⟩, ⟨8, .phase⟩, ⟨9, .phase⟩, ⟨10, .phase⟩], none⟩) rfl (fun K hK => ?_) AllReadyH.nil
  go_simp
  refine hK.out _ _ ?_ (fun hHeld => ?_)
  ·exact T8.out.cl
  clear hK K
  try simp only [Act.put,nA,nB,nC]
  refine wpAnyH_done (by kernel_rfl) ?_ _
  rw [List.append_assoc, HR.out] at T8
  clear hHeld m7 hg7 ho7 hs7 c7 f7 o7 hne7 es Ts Ms
  go_wp2_with fail
  exact bodyPost_ret (results_none rfl _ _ _) rfl ⟨rfl, _, T8.out, M8.out, O8.out⟩
 ·go_simp
  go_at_call 56
  refine (HRa.out _ T0.out.log).mono ?_
  rintro e yr ⟨rfl, hl, hm⟩
  have Tr := Lib.hid (T0.out.ring hl hm)
  have Mr := Lib.hid (M0.out.trans hm (fun i hi e => .inl e))
  have hzr := hm.size
  refine hK.out _ _ ?_ (fun hHeld => ?_)
  ·exact Tr.out.cl
  clear hK K hl hm T0 M0
  try simp only [Act.put,nA,nB,nC]
  refine wpAnyH_ready (rs := [0, 9]) (by kernel_rfl) (by simp) ?_
  refine (AllReadyH.cons (o := ⟨some 35, .load 32 (.tmp 4), 32, "rings.go:194", #[], none⟩) rfl (fun K hK => ?_) (AllReadyH.cons (o := ⟨some 44, .buildSlice 32 1 #[(0, .tmp 43)], 32, "rings.go:194", #[⟨8, .data⟩], none⟩) rfl (fun K hK => ?_) AllReadyH.nil))
  ·have co := Tr.out.co
   go_simp
   refine hK.out _ _ ?_ (fun hHeld => ?_)
   ·exact hHeld
   clear hK K co
   try simp only [Act.put,nA,nB,nC]
   refine wpAnyH_ready (rs := [9]) (by kernel_rfl) (by simp) ?_
   refine (AllReadyH.cons (o := ⟨some 44, .buildSlice 32 1 #[(0, .tmp 43)], 32, "rings.go:194", #[⟨8, .data⟩], none⟩) rfl (fun K hK => ?_) AllReadyH.nil)
   set_option maxRecDepth 20000 in
   refine step_of rfl (wp_slice1 _ rfl D HDl.out rfl yr.heap.size rfl ?_)
   intro ys es bs zs
   have Ts := Lib.hid (Tr.out.below bs)
   have Ms := Lib.hid (Mr.out.then (Mod.of _ bs))
   refine hK.out _ _ ?_ (fun hHeld => ?_)
   ·exact Ts.out.cl
   clear hK K bs Tr Mr
   try simp only [Act.put,nA,nB,nC]
   refine wpAnyH_ready (rs := [10]) (by kernel_rfl) (by simp) ?_
   refine AllReadyH.cons (o := ⟨some 45, .call ⟨.builtin .append, #[.tmp 35, .tmp 44], #[32, 32]⟩, 32, "rings.go:194", #[⟨0, .data⟩, ⟨9, .data⟩, ⟨8, .chain⟩], none⟩) rfl (fun K hK => ?_) AllReadyH.nil
   (set_option maxRecDepth 20000 in refine step_of rfl (wp_appR ys D HDl.out _ _ rfl (N + 3) ov3 (O ++ P) rfl Ts.out.own Ts.out.all yr.heap.size 1 rfl es (by rw [List.length_append]; omega) (by have := Ts.out.big; omega) ?_); intro g2 cap2 w7 ho7 hg7 hs7; obtain ⟨nn, hnn⟩ : ∃ nn, (O ++ P).length + 1 = nn := ⟨_, rfl⟩; rw [hnn] at ho7 ⊢; clear hnn; have m7 : Mod (fun k => ov3.ownBlock = some k) ys w7 := Mod.grown hg7 (fun k e => e); have hne7 : ∀ k, k < N + 3 → ¬ ov3.ownBlock = some k := fun k hk e => by have := (Ts.out.own.lt k e).1; omega)
   refine hK.out _ _ ?_ (fun hHeld => ?_)
   ·(rw [heap_cell (m7.heap Ts.out.bl (hne7 N (by omega)))]; rfl)
   clear hK K
   try simp only [Act.put,nA,nB,nC]
   have o7 := m7.heap Ts.out.bo (hne7 (N + 1) (by omega))
   have c7 := heap_one o7
   have f7 := heap_free o7 0
   have T8 := Lib.hid (Ts.out.app hg7 ho7 HDl.out)
   have hzs := Ms.out.size
   have M8 : Hid (Mod (fun k => k = b ∨ k = N + 1 ∨ ov.ownBlock = some k) w (w7.setCell ⟨N + 1, 0, none⟩ (.slice (some ⟨g2, 0, none⟩) nn cap2))) :=
    (Ms.out.trans m7 (fun i hi e => by rcases HS3.out _ e with h1 | h1; exact .inr (.inr h1); omega)).then (Mod.set (p := N + 1) (o := 0) w7 (.inr (.inl rfl)) _)
   have O8 : Hid (∀ g, (Value.slice (some ⟨g2, 0, none⟩) nn cap2).ownBlock = some g → ov.ownBlock = some g ∨ w.heap.size ≤ g) := fun g hg => by
    obtain rfl : g2 = g := Option.some.inj hg
    rcases hs7 with h1 | h1
    ·exact HS3.out _ h1
    ·right; omega
   refine wpAnyH_ready (rs := [11]) (by kernel_rfl) (by simp) ?_
   refine AllReadyH.cons (o := ⟨none, .store 32 (.tmp 4) (.tmp 45), 0, "rings.go:194", #[⟨10, .data⟩, ⟨10, .chain⟩, ⟨0, .phase⟩, ⟨1, .phase⟩, ⟨2, .phase⟩, ⟨3, .phase⟩, ⟨4, .phase⟩, ⟨5, .phase⟩, ⟨6, .phase⟩, ⟨7, .phase⟩, ⟨8, .phase⟩, ⟨9, .phase⟩, ⟨10, .phase⟩], none⟩) rfl (fun K hK => ?_) AllReadyH.nil
   go_simp
   refine hK.out _ _ ?_ (fun hHeld => ?_)
   ·exact T8.out.cl
   clear hK K
   try simp only [Act.put,nA,nB,nC]
   refine wpAnyH_done (by kernel_rfl) ?_ _
   rw [List.append_assoc, HR.out] at T8
   clear hHeld m7 hg7 ho7 hs7 c7 f7 o7 hne7 es Ts Ms
   go_wp2_with fail
   exact bodyPost_ret (results_none rfl _ _ _) rfl ⟨rfl, _, T8.out, M8.out, O8.out⟩
  ·set_option maxRecDepth 20000 in
   refine step_of rfl (wp_slice1 _ rfl D HDl.out rfl yr.heap.size rfl ?_)
   intro ys es bs zs
   have Ts := Lib.hid (Tr.out.below bs)
   have Ms := Lib.hid (Mr.out.then (Mod.of _ bs))
   refine hK.out _ _ ?_ (fun hHeld => ?_)
   ·exact Ts.out.cl
   clear hK K bs Tr Mr
   try simp only [Act.put,nA,nB,nC]
   refine wpAnyH_ready (rs := [0]) (by kernel_rfl) (by simp) ?_
   refine (AllReadyH.cons (o := ⟨some 35, .load 32 (.tmp 4), 32, "rings.go:194", #[], none⟩) rfl (fun K hK => ?_) AllReadyH.nil)
   have co := Ts.out.co
   go_simp
   refine hK.out _ _ ?_ (fun hHeld => ?_)
   ·exact hHeld
   clear hK K co
   try simp only [Act.put,nA,nB,nC]
   refine wpAnyH_ready (rs := [10]) (by kernel_rfl) (by simp) ?_
   refine AllReadyH.cons (o := ⟨some 45, .call ⟨.builtin .append, #[.tmp 35, .tmp 44], #[32, 32]⟩, 32, "rings.go:194", #[⟨0, .data⟩, ⟨9, .data⟩, ⟨8, .chain⟩], none⟩) rfl (fun K hK => ?_) AllReadyH.nil
   (set_option maxRecDepth 20000 in refine step_of rfl (wp_appR ys D HDl.out _ _ rfl (N + 3) ov3 (O ++ P) rfl Ts.out.own Ts.out.all yr.heap.size 1 rfl es (by rw [List.length_append]; omega) (by have := Ts.out.big; omega) ?_); intro g2 cap2 w7 ho7 hg7 hs7; obtain ⟨nn, hnn⟩ : ∃ nn, (O ++ P).length + 1 = nn := ⟨_, rfl⟩; rw [hnn] at ho7 ⊢; clear hnn; have m7 : Mod (fun k => ov3.ownBlock = some k) ys w7 := Mod.grown hg7 (fun k e => e); have hne7 : ∀ k, k < N + 3 → ¬ ov3.ownBlock = some k := fun k hk e => by have := (Ts.out.own.lt k e).1; omega)
   refine hK.out _ _ ?_ (fun hHeld => ?_)
   ·(rw [heap_cell (m7.heap Ts.out.bl (hne7 N (by omega)))]; rfl)
   clear hK K
   try simp only [Act.put,nA,nB,nC]
   have o7 := m7.heap Ts.out.bo (hne7 (N + 1) (by omega))
   have c7 := heap_one o7
   have f7 := heap_free o7 0
   have T8 := Lib.hid (Ts.out.app hg7 ho7 HDl.out)
   have hzs := Ms.out.size
   have M8 : Hid (Mod (fun k => k = b ∨ k = N + 1 ∨ ov.ownBlock = some k) w (w7.setCell ⟨N + 1, 0, none⟩ (.slice (some ⟨g2, 0, none⟩) nn cap2))) :=
    (Ms.out.trans m7 (fun i hi e => by rcases HS3.out _ e with h1 | h1; exact .inr (.inr h1); omega)).then (Mod.set (p := N + 1) (o := 0) w7 (.inr (.inl rfl)) _)
   have O8 : Hid (∀ g, (Value.slice (some ⟨g2, 0, none⟩) nn cap2).ownBlock = some g → ov.ownBlock = some g ∨ w.heap.size ≤ g) := fun g hg => by
    obtain rfl : g2 = g := Option.some.inj hg
    rcases hs7 with h1 | h1
    ·exact HS3.out _ h1
    ·right; omega
   refine wpAnyH_ready (rs := [11]) (by kernel_rfl) (by simp) ?_
   refine AllReadyH.cons (o := ⟨none, .store 32 (.tmp 4) (.tmp 45), 0, "rings.go:194", #[⟨10, .data⟩, ⟨10, .chain⟩, ⟨0, .phase⟩, ⟨1, .phase⟩, ⟨2, .phase⟩, ⟨3, .phase⟩, ⟨4, .phase⟩, ⟨5, .phase⟩, ⟨6, .phase⟩, ⟨7, .phase⟩, ⟨8, .phase⟩, ⟨9, .phase⟩, ⟨10, .phase⟩], none⟩) rfl (fun K hK => ?_) AllReadyH.nil
   go_simp
   refine hK.out _ _ ?_ (fun hHeld => ?_)
   ·exact T8.out.cl
   clear hK K
   try simp only [Act.put,nA,nB,nC]
   refine wpAnyH_done (by kernel_rfl) ?_ _
   rw [List.append_assoc, HR.out] at T8
   clear hHeld m7 hg7 ho7 hs7 c7 f7 o7 hne7 es Ts Ms
   go_wp2_with fail
   exact bodyPost_ret (results_none rfl _ _ _) rfl ⟨rfl, _, T8.out, M8.out, O8.out⟩
set_option maxHeartbeats 8000000 in
theorem since_right (B p b : Nat) (lv : Value) (wd : Nat) (L : List Dg) (N a i n : Nat) (wh : Bool) (ov : Value) (O : List Dg) (w : World) (h : Hid (TB w B p b lv wd L N ov O (upS N) 104)) (hn : 2 ≤ n) (han : a + n ≤ L.length) (hi0 : 1 ≤ i) (hin : i < n) (hi : ¬ i ≤ halfN n) (hwd : wd ≤ 32) (hO : O.length + n ≤ 100000000)
  (ih : Calls Try.prog 58 #[.int .i64 ((a + halfN n : Nat) : Int), .int .i64 ((i - halfN n : Nat) : Int), .int .i64 ((n - halfN n : Nat) : Int), .bool false, .pointer (some ⟨N + 1, 0, none⟩), .pointer (some ⟨N, 0, none⟩), .pointer (some ⟨N + 2, 0, none⟩)] w (TrailPost w B p b lv wd L N ov O (sinceP wd L (a + halfN n) (i - halfN n) (n - halfN n) false) (upS N) 104))
  (hlen : (sinceP wd L (a + halfN n) (i - halfN n) (n - halfN n) false).length ≤ n - halfN n) :
  Calls Try.prog 58 #[.int .i64 (a : Int), .int .i64 (i : Int), .int .i64 (n : Int), .bool wh, .pointer (some ⟨N + 1, 0, none⟩), .pointer (some ⟨N, 0, none⟩), .pointer (some ⟨N + 2, 0, none⟩)] w (TrailPost w B p b lv wd L N ov O (sinceP wd L a i n wh) (upS N) 104) := by
 have hs := half_spec hn
 have hLl := h.out.log.len
 have hcl := sinceP_right wd L a i n wh hi0 hin hi
 have hDl := spanD_length wd L a (halfN n) h.out.log.all (by omega)
 obtain ⟨k, hk⟩ : ∃ k, halfN n = k := ⟨_, rfl⟩
 rw [hk] at hs hi ih hlen hcl hDl
 obtain ⟨P, hP⟩ : ∃ P, sinceP wd L (a + k) (i - k) (n - k) false = P := ⟨_, rfl⟩
 have hra := fun W (hl : LogB W B p b lv wd L) => ring_any wd hwd B p b lv L k a W hl (by omega)
 obtain ⟨D, hD⟩ : ∃ D, spanD wd L a k = D := ⟨_, rfl⟩
 rw [hP] at ih hlen hcl
 rw [hD] at hcl hDl hra
 rw [hcl]
 have IH := Lib.hid ih
 have HK := Lib.hid hk
 have HRa := Lib.hid hra
 have HDl := Lib.hid hDl
 obtain ⟨R, hR⟩ : ∃ R, P ++ [D] = R := ⟨_, rfl⟩
 rw [hR]
 have HR := Lib.hid hR
 clear ih hk hP hD hcl hra hDl hR
 have hlt : ¬ (i : Int) ≤ (k : Int) := by omega
 have dlt : decide (i ≤ k) = false := decide_eq_false hi
 have dlt2 : decide ((i : Int) ≤ (k : Int)) = false := decide_eq_false hlt
 obtain ⟨ak, hak⟩ : ∃ ak, a + k = ak := ⟨_, rfl⟩
 obtain ⟨ik, hik⟩ : ∃ ik, i - k = ik := ⟨_, rfl⟩
 obtain ⟨nk, hnk⟩ : ∃ nk, n - k = nk := ⟨_, rfl⟩
 have EA : Hid ((a : Int) + (k : Int) = (ak : Int)) := by show _ = _; omega
 have EI : Hid ((i : Int) - (k : Int) = (ik : Int)) := by show _ = _; omega
 have EN : Hid ((n : Int) - (k : Int) = (nk : Int)) := by show _ = _; omega
 rw [hak, hik, hnk] at IH
 have hnk2 : nk + k = n := by omega
 have hak2 : ak ≤ 1048576 := by omega
 rw [hnk] at hlen
 clear hak hik hnk
 have n1 : ((i : Int) == (n : Int)) = false := by simp; omega
 have n2 : (i == n) = false := by simp; omega
 have n3 : decide (i = n) = false := by simp; omega
 have cu := h.out.cu
 unfold upS at cu
 go_enter Try.func58, Try.ntmps58
 go_upto_region 7 with (go_at_call 52; refine (half_any n _ hn (by omega)).mono ?_; rintro e w2 ⟨rfl, rfl⟩; rw [HK.out])
 have ea := EA.out
 have ei := EI.out
 have en := EN.out
 have wa : IntKind.i64.wrap (ak : Int) = (ak : Int) := IntWalk.i64_in _ (by omega)
 have wi : IntKind.i64.wrap (ik : Int) = (ik : Int) := IntWalk.i64_in _ (by omega)
 have wn : IntKind.i64.wrap (nk : Int) = (nk : Int) := IntWalk.i64_in _ (by omega)
 refine wp_region_list ?_
 iterate 10
  (refine wpList_plain rfl (fun K hK => ?_)); go_simp; refine hK _ _ ?_; clear hK K; try simp only [Act.put,nA,nB,nC]
 refine wpList_plain rfl (fun K hK => ?_)
 go_simp
 refine IH.out.mono ?_; rintro e w3 ⟨rfl, ov3, T3, M3, hs3⟩
 refine hK _ _ ?_
 clear hK K
 try simp only [Act.put,nA,nB,nC]
 have HS3 := Lib.hid hs3
 have T3' := Lib.hid T3
 have M3' := Lib.hid M3
 have hz3 := M3.size
 clear T3 M3 hs3 cu ea ei en wa wi wn
 have hbig := T3'.out.big
 go_upto_region 8 with fail
 have T0 := Lib.hid T3'.out.drew
 have M0 : Hid (Mod (fun k => k = b ∨ k = N + 1 ∨ ov.ownBlock = some k) w w3.drew) := M3'.out.drew
 have cl0 := T3'.out.cl
 refine wp_region_held_drew (S := fun W => W.cell? ⟨N, 0, none⟩ = some (.pointer (some ⟨p, 0, none⟩))) (by kernel_rfl) cl0 (fun hHeld => ?_)
 clear T3' M3' cl0
 refine' tQ 1 ⟨some 58, .load 40 (.tmp 5), 40, "rings.go:198", #[], none⟩ rfl (by kernel_rfl) (Or.inl ⟨by rfl, _⟩) _; rotate_left; · (intro s h; (try dsimp only at h); go_simp; try with_reducible rfl)
 try simp only [Act.put,nA,nB,nC]
 refine' tQ 2 ⟨some 59, .move (.tmp 0), 3, "rings.go:198", #[], none⟩ rfl (by kernel_rfl) (Or.inl ⟨by rfl, _⟩) _; rotate_left; · (intro s h; (try dsimp only at h); go_simp; try with_reducible rfl)
 try simp only [Act.put,nA,nB,nC]
 refine' tQ 3 ⟨some 60, .move (.tmp 11), 3, "rings.go:198", #[], none⟩ rfl (by kernel_rfl) (Or.inl ⟨by rfl, _⟩) _; rotate_left; · (intro s h; (try dsimp only at h); go_simp; try with_reducible rfl)
 try simp only [Act.put,nA,nB,nC]
 refine wpAnyH_ready (rs := [0, 4]) (by kernel_rfl) (by simp) ?_
 refine (AllReadyH.cons (o := ⟨some 57, .load 32 (.tmp 4), 32, "rings.go:198", #[], none⟩) rfl (fun K hK => ?_) (AllReadyH.cons (o := ⟨some 61, .call ⟨.value (.func 56), #[.tmp 58, .tmp 59, .tmp 60], #[40, 3, 3]⟩, 23, "rings.go:198", #[⟨1, .data⟩, ⟨2, .data⟩, ⟨3, .data⟩], none⟩) rfl (fun K hK => ?_) AllReadyH.nil))
 ·have co := T0.out.co
  go_simp
  refine hK.out _ _ ?_ (fun hHeld => ?_)
  ·exact hHeld
  clear hK K co
  try simp only [Act.put,nA,nB,nC]
  refine wpAnyH_ready (rs := [4]) (by kernel_rfl) (by simp) ?_
  refine (AllReadyH.cons (o := ⟨some 61, .call ⟨.value (.func 56), #[.tmp 58, .tmp 59, .tmp 60], #[40, 3, 3]⟩, 23, "rings.go:198", #[⟨1, .data⟩, ⟨2, .data⟩, ⟨3, .data⟩], none⟩) rfl (fun K hK => ?_) AllReadyH.nil)
  go_simp
  go_at_call 56
  refine (HRa.out _ T0.out.log).mono ?_
  rintro e yr ⟨rfl, hl, hm⟩
  have Tr := Lib.hid (T0.out.ring hl hm)
  have Mr := Lib.hid (M0.out.trans hm (fun i hi e => .inl e))
  have hzr := hm.size
  refine hK.out _ _ ?_ (fun hHeld => ?_)
  ·exact Tr.out.cl
  clear hK K hl hm T0 M0
  try simp only [Act.put,nA,nB,nC]
  refine wpAnyH_ready (rs := [5]) (by kernel_rfl) (by simp) ?_
  refine (AllReadyH.cons (o := ⟨some 62, .buildSlice 32 1 #[(0, .tmp 61)], 32, "rings.go:198", #[⟨4, .data⟩], none⟩) rfl (fun K hK => ?_) AllReadyH.nil)
  set_option maxRecDepth 20000 in
  refine step_of rfl (wp_slice1 _ rfl D HDl.out rfl yr.heap.size rfl ?_)
  intro ys es bs zs
  have Ts := Lib.hid (Tr.out.below bs)
  have Ms := Lib.hid (Mr.out.then (Mod.of _ bs))
  refine hK.out _ _ ?_ (fun hHeld => ?_)
  ·exact Ts.out.cl
  clear hK K bs Tr Mr
  try simp only [Act.put,nA,nB,nC]
  refine wpAnyH_ready (rs := [6]) (by kernel_rfl) (by simp) ?_
  refine AllReadyH.cons (o := ⟨some 63, .call ⟨.builtin .append, #[.tmp 57, .tmp 62], #[32, 32]⟩, 32, "rings.go:198", #[⟨0, .data⟩, ⟨5, .data⟩, ⟨4, .chain⟩], none⟩) rfl (fun K hK => ?_) AllReadyH.nil
  (set_option maxRecDepth 20000 in refine step_of rfl (wp_appR ys D HDl.out _ _ rfl (N + 3) ov3 (O ++ P) rfl Ts.out.own Ts.out.all yr.heap.size 1 rfl es (by rw [List.length_append]; omega) (by have := Ts.out.big; omega) ?_); intro g2 cap2 w7 ho7 hg7 hs7; obtain ⟨nn, hnn⟩ : ∃ nn, (O ++ P).length + 1 = nn := ⟨_, rfl⟩; rw [hnn] at ho7 ⊢; clear hnn; have m7 : Mod (fun k => ov3.ownBlock = some k) ys w7 := Mod.grown hg7 (fun k e => e); have hne7 : ∀ k, k < N + 3 → ¬ ov3.ownBlock = some k := fun k hk e => by have := (Ts.out.own.lt k e).1; omega)
  refine hK.out _ _ ?_ (fun hHeld => ?_)
  ·(rw [heap_cell (m7.heap Ts.out.bl (hne7 N (by omega)))]; rfl)
  clear hK K
  try simp only [Act.put,nA,nB,nC]
  have o7 := m7.heap Ts.out.bo (hne7 (N + 1) (by omega))
  have c7 := heap_one o7
  have f7 := heap_free o7 0
  have T8 := Lib.hid (Ts.out.app hg7 ho7 HDl.out)
  have hzs := Ms.out.size
  have M8 : Hid (Mod (fun k => k = b ∨ k = N + 1 ∨ ov.ownBlock = some k) w (w7.setCell ⟨N + 1, 0, none⟩ (.slice (some ⟨g2, 0, none⟩) nn cap2))) :=
   (Ms.out.trans m7 (fun i hi e => by rcases HS3.out _ e with h1 | h1; exact .inr (.inr h1); omega)).then (Mod.set (p := N + 1) (o := 0) w7 (.inr (.inl rfl)) _)
  have O8 : Hid (∀ g, (Value.slice (some ⟨g2, 0, none⟩) nn cap2).ownBlock = some g → ov.ownBlock = some g ∨ w.heap.size ≤ g) := fun g hg => by
   obtain rfl : g2 = g := Option.some.inj hg
   rcases hs7 with h1 | h1
   ·exact HS3.out _ h1
   ·right; omega
  refine wpAnyH_ready (rs := [7]) (by kernel_rfl) (by simp) ?_
  refine AllReadyH.cons (o := ⟨none, .store 32 (.tmp 4) (.tmp 63), 0, "rings.go:198", #[⟨6, .data⟩, ⟨6, .chain⟩, ⟨0, .phase⟩, ⟨1, .phase⟩, ⟨2, .phase⟩, ⟨3, .phase⟩, ⟨4, .phase⟩, ⟨5, .phase⟩, ⟨6, .phase⟩], none⟩) rfl (fun K hK => ?_) AllReadyH.nil
  go_simp
  refine hK.out _ _ ?_ (fun hHeld => ?_)
  ·exact T8.out.cl
  clear hK K
  try simp only [Act.put,nA,nB,nC]
  refine wpAnyH_done (by kernel_rfl) ?_ _
  rw [List.append_assoc, HR.out] at T8
  clear hHeld m7 hg7 ho7 hs7 c7 f7 o7 hne7 es Ts Ms
  go_wp2_with fail
  exact bodyPost_ret (results_none rfl _ _ _) rfl ⟨rfl, _, T8.out, M8.out, O8.out⟩
 ·go_simp
  go_at_call 56
  refine (HRa.out _ T0.out.log).mono ?_
  rintro e yr ⟨rfl, hl, hm⟩
  have Tr := Lib.hid (T0.out.ring hl hm)
  have Mr := Lib.hid (M0.out.trans hm (fun i hi e => .inl e))
  have hzr := hm.size
  refine hK.out _ _ ?_ (fun hHeld => ?_)
  ·exact Tr.out.cl
  clear hK K hl hm T0 M0
  try simp only [Act.put,nA,nB,nC]
  refine wpAnyH_ready (rs := [0, 5]) (by kernel_rfl) (by simp) ?_
  refine (AllReadyH.cons (o := ⟨some 57, .load 32 (.tmp 4), 32, "rings.go:198", #[], none⟩) rfl (fun K hK => ?_) (AllReadyH.cons (o := ⟨some 62, .buildSlice 32 1 #[(0, .tmp 61)], 32, "rings.go:198", #[⟨4, .data⟩], none⟩) rfl (fun K hK => ?_) AllReadyH.nil))
  ·have co := Tr.out.co
   go_simp
   refine hK.out _ _ ?_ (fun hHeld => ?_)
   ·exact hHeld
   clear hK K co
   try simp only [Act.put,nA,nB,nC]
   refine wpAnyH_ready (rs := [5]) (by kernel_rfl) (by simp) ?_
   refine (AllReadyH.cons (o := ⟨some 62, .buildSlice 32 1 #[(0, .tmp 61)], 32, "rings.go:198", #[⟨4, .data⟩], none⟩) rfl (fun K hK => ?_) AllReadyH.nil)
   set_option maxRecDepth 20000 in
   refine step_of rfl (wp_slice1 _ rfl D HDl.out rfl yr.heap.size rfl ?_)
   intro ys es bs zs
   have Ts := Lib.hid (Tr.out.below bs)
   have Ms := Lib.hid (Mr.out.then (Mod.of _ bs))
   refine hK.out _ _ ?_ (fun hHeld => ?_)
   ·exact Ts.out.cl
   clear hK K bs Tr Mr
   try simp only [Act.put,nA,nB,nC]
   refine wpAnyH_ready (rs := [6]) (by kernel_rfl) (by simp) ?_
   refine AllReadyH.cons (o := ⟨some 63, .call ⟨.builtin .append, #[.tmp 57, .tmp 62], #[32, 32]⟩, 32, "rings.go:198", #[⟨0, .data⟩, ⟨5, .data⟩, ⟨4, .chain⟩], none⟩) rfl (fun K hK => ?_) AllReadyH.nil
   (set_option maxRecDepth 20000 in refine step_of rfl (wp_appR ys D HDl.out _ _ rfl (N + 3) ov3 (O ++ P) rfl Ts.out.own Ts.out.all yr.heap.size 1 rfl es (by rw [List.length_append]; omega) (by have := Ts.out.big; omega) ?_); intro g2 cap2 w7 ho7 hg7 hs7; obtain ⟨nn, hnn⟩ : ∃ nn, (O ++ P).length + 1 = nn := ⟨_, rfl⟩; rw [hnn] at ho7 ⊢; clear hnn; have m7 : Mod (fun k => ov3.ownBlock = some k) ys w7 := Mod.grown hg7 (fun k e => e); have hne7 : ∀ k, k < N + 3 → ¬ ov3.ownBlock = some k := fun k hk e => by have := (Ts.out.own.lt k e).1; omega)
   refine hK.out _ _ ?_ (fun hHeld => ?_)
   ·(rw [heap_cell (m7.heap Ts.out.bl (hne7 N (by omega)))]; rfl)
   clear hK K
   try simp only [Act.put,nA,nB,nC]
   have o7 := m7.heap Ts.out.bo (hne7 (N + 1) (by omega))
   have c7 := heap_one o7
   have f7 := heap_free o7 0
   have T8 := Lib.hid (Ts.out.app hg7 ho7 HDl.out)
   have hzs := Ms.out.size
   have M8 : Hid (Mod (fun k => k = b ∨ k = N + 1 ∨ ov.ownBlock = some k) w (w7.setCell ⟨N + 1, 0, none⟩ (.slice (some ⟨g2, 0, none⟩) nn cap2))) :=
    (Ms.out.trans m7 (fun i hi e => by rcases HS3.out _ e with h1 | h1; exact .inr (.inr h1); omega)).then (Mod.set (p := N + 1) (o := 0) w7 (.inr (.inl rfl)) _)
   have O8 : Hid (∀ g, (Value.slice (some ⟨g2, 0, none⟩) nn cap2).ownBlock = some g → ov.ownBlock = some g ∨ w.heap.size ≤ g) := fun g hg => by
    obtain rfl : g2 = g := Option.some.inj hg
    rcases hs7 with h1 | h1
    ·exact HS3.out _ h1
    ·right; omega
   refine wpAnyH_ready (rs := [7]) (by kernel_rfl) (by simp) ?_
   refine AllReadyH.cons (o := ⟨none, .store 32 (.tmp 4) (.tmp 63), 0, "rings.go:198", #[⟨6, .data⟩, ⟨6, .chain⟩, ⟨0, .phase⟩, ⟨1, .phase⟩, ⟨2, .phase⟩, ⟨3, .phase⟩, ⟨4, .phase⟩, ⟨5, .phase⟩, ⟨6, .phase⟩], none⟩) rfl (fun K hK => ?_) AllReadyH.nil
   go_simp
   refine hK.out _ _ ?_ (fun hHeld => ?_)
   ·exact T8.out.cl
   clear hK K
   try simp only [Act.put,nA,nB,nC]
   refine wpAnyH_done (by kernel_rfl) ?_ _
   rw [List.append_assoc, HR.out] at T8
   clear hHeld m7 hg7 ho7 hs7 c7 f7 o7 hne7 es Ts Ms
   go_wp2_with fail
   exact bodyPost_ret (results_none rfl _ _ _) rfl ⟨rfl, _, T8.out, M8.out, O8.out⟩
  ·set_option maxRecDepth 20000 in
   refine step_of rfl (wp_slice1 _ rfl D HDl.out rfl yr.heap.size rfl ?_)
   intro ys es bs zs
   have Ts := Lib.hid (Tr.out.below bs)
   have Ms := Lib.hid (Mr.out.then (Mod.of _ bs))
   refine hK.out _ _ ?_ (fun hHeld => ?_)
   ·exact Ts.out.cl
   clear hK K bs Tr Mr
   try simp only [Act.put,nA,nB,nC]
   refine wpAnyH_ready (rs := [0]) (by kernel_rfl) (by simp) ?_
   refine (AllReadyH.cons (o := ⟨some 57, .load 32 (.tmp 4), 32, "rings.go:198", #[], none⟩) rfl (fun K hK => ?_) AllReadyH.nil)
   have co := Ts.out.co
   go_simp
   refine hK.out _ _ ?_ (fun hHeld => ?_)
   ·exact hHeld
   clear hK K co
   try simp only [Act.put,nA,nB,nC]
   refine wpAnyH_ready (rs := [6]) (by kernel_rfl) (by simp) ?_
   refine AllReadyH.cons (o := ⟨some 63, .call ⟨.builtin .append, #[.tmp 57, .tmp 62], #[32, 32]⟩, 32, "rings.go:198", #[⟨0, .data⟩, ⟨5, .data⟩, ⟨4, .chain⟩], none⟩) rfl (fun K hK => ?_) AllReadyH.nil
   (set_option maxRecDepth 20000 in refine step_of rfl (wp_appR ys D HDl.out _ _ rfl (N + 3) ov3 (O ++ P) rfl Ts.out.own Ts.out.all yr.heap.size 1 rfl es (by rw [List.length_append]; omega) (by have := Ts.out.big; omega) ?_); intro g2 cap2 w7 ho7 hg7 hs7; obtain ⟨nn, hnn⟩ : ∃ nn, (O ++ P).length + 1 = nn := ⟨_, rfl⟩; rw [hnn] at ho7 ⊢; clear hnn; have m7 : Mod (fun k => ov3.ownBlock = some k) ys w7 := Mod.grown hg7 (fun k e => e); have hne7 : ∀ k, k < N + 3 → ¬ ov3.ownBlock = some k := fun k hk e => by have := (Ts.out.own.lt k e).1; omega)
   refine hK.out _ _ ?_ (fun hHeld => ?_)
   ·(rw [heap_cell (m7.heap Ts.out.bl (hne7 N (by omega)))]; rfl)
   clear hK K
   try simp only [Act.put,nA,nB,nC]
   have o7 := m7.heap Ts.out.bo (hne7 (N + 1) (by omega))
   have c7 := heap_one o7
   have f7 := heap_free o7 0
   have T8 := Lib.hid (Ts.out.app hg7 ho7 HDl.out)
   have hzs := Ms.out.size
   have M8 : Hid (Mod (fun k => k = b ∨ k = N + 1 ∨ ov.ownBlock = some k) w (w7.setCell ⟨N + 1, 0, none⟩ (.slice (some ⟨g2, 0, none⟩) nn cap2))) :=
    (Ms.out.trans m7 (fun i hi e => by rcases HS3.out _ e with h1 | h1; exact .inr (.inr h1); omega)).then (Mod.set (p := N + 1) (o := 0) w7 (.inr (.inl rfl)) _)
   have O8 : Hid (∀ g, (Value.slice (some ⟨g2, 0, none⟩) nn cap2).ownBlock = some g → ov.ownBlock = some g ∨ w.heap.size ≤ g) := fun g hg => by
    obtain rfl : g2 = g := Option.some.inj hg
    rcases hs7 with h1 | h1
    ·exact HS3.out _ h1
    ·right; omega
   refine wpAnyH_ready (rs := [7]) (by kernel_rfl) (by simp) ?_
   refine AllReadyH.cons (o := ⟨none, .store 32 (.tmp 4) (.tmp 63), 0, "rings.go:198", #[⟨6, .data⟩, ⟨6, .chain⟩, ⟨0, .phase⟩, ⟨1, .phase⟩, ⟨2, .phase⟩, ⟨3, .phase⟩, ⟨4, .phase⟩, ⟨5, .phase⟩, ⟨6, .phase⟩], none⟩) rfl (fun K hK => ?_) AllReadyH.nil
   go_simp
   refine hK.out _ _ ?_ (fun hHeld => ?_)
   ·exact T8.out.cl
   clear hK K
   try simp only [Act.put,nA,nB,nC]
   refine wpAnyH_done (by kernel_rfl) ?_ _
   rw [List.append_assoc, HR.out] at T8
   clear hHeld m7 hg7 ho7 hs7 c7 f7 o7 hne7 es Ts Ms
   go_wp2_with fail
   exact bodyPost_ret (results_none rfl _ _ _) rfl ⟨rfl, _, T8.out, M8.out, O8.out⟩
end Go.Proofs.Ytihbhpggpnmifaa
namespace Go.Proofs.Ytihbhpggpnmifaa
open Go.RowKit Go.Lib Hw
theorem sinceP_len (wd : Nat) (L : List Dg) : ∀ (n a m : Nat) (wh : Bool), 1 ≤ m → m ≤ n → (sinceP wd L a m n wh).length ≤ n := by
 intro n
 induction n using Nat.strongRecOn with
 | _ n ih =>
  intro a m wh h0 hm
  by_cases h1 : m = n
  ·subst h1
   cases wh
   ·rw [sinceP_part wd L a m h0]; simpa using h0
   ·rw [sinceP_whole wd L a m h0]; simp
  ·have hs := half_spec (n := n) (by omega)
   by_cases hi : m ≤ halfN n
   ·rw [sinceP_left wd L a m n wh h0 (by omega) hi, List.length_append, List.length_singleton]
    have := ih (halfN n) (by omega) a m wh h0 hi
    omega
   ·rw [sinceP_right wd L a m n wh h0 (by omega) hi, List.length_append, List.length_singleton]
    have := ih (n - halfN n) (by omega) (a + halfN n) (m - halfN n) false (by omega) (by omega)
    omega
theorem sinceC_any (B p b : Nat) (lv : Value) (wd : Nat) (L : List Dg) (N : Nat) (hwd : wd ≤ 32) : ∀ (n a m : Nat) (wh : Bool) (ov : Value) (O : List Dg) (w : World), TB w B p b lv wd L N ov O (upS N) 104 → 1 ≤ m → m ≤ n → a + n ≤ L.length → O.length + n ≤ 100000000 →
  Calls Try.prog 58 #[.int .i64 (a : Int), .int .i64 (m : Int), .int .i64 (n : Int), .bool wh, .pointer (some ⟨N + 1, 0, none⟩), .pointer (some ⟨N, 0, none⟩), .pointer (some ⟨N + 2, 0, none⟩)] w (TrailPost w B p b lv wd L N ov O (sinceP wd L a m n wh) (upS N) 104) := by
 intro n
 induction n using Nat.strongRecOn with
 | _ n ih =>
  intro a m wh ov O w h h0 hm han hO
  by_cases h1 : m = n
  ·subst h1
   cases wh
   ·rw [sinceP_part wd L a m h0]
    exact since_part B p b lv wd L N a m ov O w h h0 han hwd hO
   ·rw [sinceP_whole wd L a m h0]
    exact since_whole B p b lv wd L N a m ov O w h
  ·have hs := half_spec (n := n) (by omega)
   by_cases hik : m ≤ halfN n
   ·exact since_left B p b lv wd L N a m n wh ov O w h (by omega) han h0 (by omega) hik hwd hO (ih (halfN n) (by omega) a m wh ov O w h h0 hik (by omega) (by omega)) (sinceP_len wd L _ _ _ _ h0 hik)
   ·exact since_right B p b lv wd L N a m n wh ov O w h (by omega) han h0 (by omega) hik hwd hO (ih (n - halfN n) (by omega) (a + halfN n) (m - halfN n) false ov O w h (by omega) (by omega) (by omega) (by omega)) (sinceP_len wd L _ _ _ _ (by omega) (by omega))
theorem zero_fS (w : World) : (zeroValue 104).run Try.prog w = .ok .nilFunc w := by kernel_rfl
set_option maxHeartbeats 2000000 in
theorem Since_no (w : World) (B p b : Nat) (lv : Value) (wd : Nat) (L : List Dg) (n s : Nat) (h : Hid (LogB w B p b lv wd L)) (hw : 1 ≤ wd) (hn : L.length < s ∨ s < n) :
  Calls Try.prog 29 #[.pointer (some ⟨p, 0, none⟩), .int .u64 (n : Int), .int .u64 (s : Int)] w fun e w' => e = .returned (.tuple #[.slice none 0 0, .int .i64 190]) ∧ Below w.heap.size w w' := by
 have L1 : Hid (LogB (w.alloc (.cells #[.pointer (some ⟨p, 0, none⟩)] 40)) B p b lv wd L) := h.out.alloc _
 by_cases h1 : L.length < s
 ·have d1 : decide (L.length < s) = true := decide_eq_true h1
  go_enter Try.func29, Try.ntmps29
  go_wp2_with (first
   | (go_at_call 55; refine (off_log _ B p b lv wd L L1 hw).mono ?_; rintro e w3 ⟨rfl, rfl⟩)
   | (go_at_call 41; refine (Size_log _ B p b lv wd L L1 hw).mono ?_; rintro e w3 ⟨rfl, rfl⟩))
  go_ret2
  exact ⟨rfl, (Below.refl _ _).alloc (Nat.le_refl _) _⟩
 ·have d1 : decide (L.length < s) = false := decide_eq_false h1
  have d2 : decide (s < n) = true := decide_eq_true (by omega)
  go_enter Try.func29, Try.ntmps29
  go_wp2_with (first
   | (go_at_call 55; refine (off_log _ B p b lv wd L L1 hw).mono ?_; rintro e w3 ⟨rfl, rfl⟩)
   | (go_at_call 41; refine (Size_log _ B p b lv wd L L1 hw).mono ?_; rintro e w3 ⟨rfl, rfl⟩))
  go_ret2
  exact ⟨rfl, (Below.refl _ _).alloc (Nat.le_refl _) _⟩
set_option maxHeartbeats 2000000 in
theorem Since_end (w : World) (B p b : Nat) (lv : Value) (wd : Nat) (L : List Dg) (n s : Nat) (h : Hid (LogB w B p b lv wd L)) (hw : 1 ≤ wd) (hs : s ≤ L.length) (hn : n = 0 ∨ n = s) :
  Calls Try.prog 29 #[.pointer (some ⟨p, 0, none⟩), .int .u64 (n : Int), .int .u64 (s : Int)] w fun e w' => e = .returned (.tuple #[.slice none 0 0, .int .i64 0]) ∧ Below w.heap.size w w' := by
 have L1 : Hid (LogB (w.alloc (.cells #[.pointer (some ⟨p, 0, none⟩)] 40)) B p b lv wd L) := h.out.alloc _
 have d1 : decide (L.length < s) = false := decide_eq_false (by omega)
 have d2 : decide (s < n) = false := decide_eq_false (by omega)
 by_cases h0 : n = 0
 ·subst h0
  go_enter Try.func29, Try.ntmps29
  go_wp2_with (first
   | (go_at_call 55; refine (off_log _ B p b lv wd L L1 hw).mono ?_; rintro e w3 ⟨rfl, rfl⟩)
   | (go_at_call 41; refine (Size_log _ B p b lv wd L L1 hw).mono ?_; rintro e w3 ⟨rfl, rfl⟩))
  go_ret2
  exact ⟨rfl, (Below.refl _ _).alloc (Nat.le_refl _) _⟩
 ·obtain rfl : n = s := by omega
  have d3 : ((n : Int) == 0) = false := by simp; omega
  go_enter Try.func29, Try.ntmps29
  go_wp2_with (first
   | (go_at_call 55; refine (off_log _ B p b lv wd L L1 hw).mono ?_; rintro e w3 ⟨rfl, rfl⟩)
   | (go_at_call 41; refine (Size_log _ B p b lv wd L L1 hw).mono ?_; rintro e w3 ⟨rfl, rfl⟩))
  go_ret2
  exact ⟨rfl, (Below.refl _ _).alloc (Nat.le_refl _) _⟩
set_option maxHeartbeats 4000000 in
theorem Since_go (w : World) (B p b : Nat) (lv : Value) (wd : Nat) (L : List Dg) (n s : Nat) (h : Hid (LogB w B p b lv wd L)) (hw : 1 ≤ wd) (hwd : wd ≤ 32) (hs : s ≤ L.length) (h0 : 1 ≤ n) (hn : n < s) :
  Calls Try.prog 29 #[.pointer (some ⟨p, 0, none⟩), .int .u64 (n : Int), .int .u64 (s : Int)] w (ListPost w B p b lv wd L (sinceP wd L 0 n s true)) := by
 have hLl := h.out.len
 have d1 : decide (L.length < s) = false := decide_eq_false (by omega)
 have d2 : decide (s < n) = false := decide_eq_false (by omega)
 have d3 : ((n : Int) == 0) = false := by simp; omega
 have d4 : ((n : Int) == (s : Int)) = false := by simp; omega
 have d5 : (n == s) = false := by simp; omega
 have hmf : ∀ (fn : Fn) (first cap : Array Value) (w : World), (Instr.makeFunc fn first cap).run Try.prog w = .ok (.func fn first cap) w := fun _ _ _ _ => rfl
 obtain ⟨N, hN⟩ : ∃ N, w.heap.size = N := ⟨_, rfl⟩
 have HN := Lib.hid hN
 obtain ⟨T, hT⟩ : ∃ T, sinceP wd L 0 n s true = T := ⟨_, rfl⟩
 have HT := Lib.hid hT
 rw [hT]
 have hrp : ∀ e w', (∃ ov, e = .returned (.tuple #[ov, .int .i64 0]) ∧ OwnR w' N ov T ∧ All32 T ∧ LogB w' B p b lv wd L ∧ Mod (fun k => k = b) w w') → ListPost w B p b lv wd L T e w' := by
  rw [← hN]; exact fun e w' h => h
 have HRp := Lib.hid hrp
 clear hT hN hrp
 go_enter Try.func29, Try.ntmps29
 go_upto_region 0 with fail
 refine wp_region_list ?_
 refine wpList_boxB rfl _ _ rfl N HN.out #[.pointer (some ⟨p, 0, none⟩)] rfl ?_
 intro w0 e0 b0 z0
 try simp only [Act.put,nA,nB,nC]
 iterate 2
  (refine wpList_plain rfl (fun K hK => ?_)); go_simp; refine hK _ _ ?_; clear hK K; try simp only [Act.put,nA,nB,nC]
 have L0 := Lib.hid (h.out.below (by rw [HN.out]; exact b0))
 have E0 := Lib.hid e0
 have B0 := Lib.hid b0
 have c0 := heap_one e0
 clear e0 b0
 go_upto_region 7 with (first
  | (go_at_call 55; refine (off_log _ B p b lv wd L L0 hw).mono ?_; rintro e w3 ⟨rfl, rfl⟩)
  | (go_at_call 41; refine (Size_log _ B p b lv wd L L0 hw).mono ?_; rintro e w3 ⟨rfl, rfl⟩))
 clear c0 d1 d2 d3 d4 d5
 refine wp_region_list ?_
 refine wpList_allocB rfl 32 rfl (N + 1) z0 _ zero_sD ?_
 intro w1 e1 b1 z1
 try simp only [Act.put,nA,nB,nC]
 have E1 := Lib.hid e1
 have B1 := Lib.hid b1
 clear e1 b1
 go_upto_region 8 with fail
 refine wp_region_list ?_
 refine wpList_allocB rfl 104 rfl (N + 2) z1 _ zero_fS ?_
 intro w2 e2 b2 z2
 try simp only [Act.put,nA,nB,nC]
 have c2 := heap_one e2
 have f2 := heap_free e2 0
 go_upto_region 10 with fail
 obtain ⟨w3, hw3⟩ : ∃ W, w2.setCell ⟨N + 2, 0, none⟩ (upS N) = W := ⟨_, rfl⟩
 have hw3' := hw3
 unfold upS at hw3'
 have e3 : w3.heap[N + 2]? = some (.cells #[upS N] 104 (0, 0)) := by rw [← hw3]; exact heap_put e2 _
 have b3 : Below (N + 2) w2 w3 := by rw [← hw3]; exact (Below.refl (N + 2) w2).setCell (p := ⟨N + 2, 0, none⟩) (Nat.le_refl _) _
 rw [hw3']
 have b13 := b2.trans b3
 have b03 := B1.out.trans (b13.mono (by omega))
 have bw3 := B0.out.trans (b03.mono (by omega))
 have T3 : Hid (TB w3 B p b lv wd L N (.slice none 0 0) [] (upS N) 104) :=
  ⟨L0.out.below (by rw [z0]; exact b03), heap_below E0.out b03 (by omega), heap_below E1.out b13 (by omega), e3, OwnR.nil _ _, All32.nil, by have := h.out.lt; rw [HN.out] at this; exact this, by have := h.out.ltb; rw [HN.out] at this; exact this, fun g hg => by have := (h.out.leaves.lt g hg).2; rw [HN.out] at this; exact this⟩
 have B3 := Lib.hid bw3
 have hz3 : w2.heap.size = w3.heap.size := by rw [← hw3]; simp
 clear e2 b2 c2 f2 e3 b3 b13 b03 bw3 hw3 hw3' L0 E0 B0 E1 B1
 have cu := T3.out.cu
 unfold upS at cu
 have ih := sinceC_any B p b lv wd L N hwd s 0 n true _ _ w3 T3.out (by omega) (by omega) (by omega) (by simp; omega)
 rw [HT.out] at ih
 have IH := Lib.hid ih
 clear ih
 have hwn : IntKind.i64.wrap (n : Int) = (n : Int) := IntWalk.i64_in _ (by omega)
 have hws : IntKind.i64.wrap (s : Int) = (s : Int) := IntWalk.i64_in _ (by omega)
 refine wp_region_list ?_
 iterate 5
  (refine wpList_plain rfl (fun K hK => ?_)); go_simp; refine hK _ _ ?_; clear hK K; try simp only [Act.put,nA,nB,nC]
 refine wpList_plain rfl (fun K hK => ?_)
 go_simp
 refine IH.out.mono ?_; rintro e w4 ⟨rfl, ov, T4, M4, O4⟩
 refine hK _ _ ?_
 clear hK K
 try simp only [Act.put,nA,nB,nC]
 rw [List.nil_append] at T4
 have hbN := T4.bz
 have co4 := T4.co
 have M5 : Mod (fun k => k = b) w w4 := (Mod.mono (Mod.of (fun k => k = b) (by rw [HN.out]; exact B3.out)) (fun i hi e => e)).trans M4 (fun i hi e => by
  rw [HN.out] at hi
  rcases e with e | e | e
  ·exact e
  ·omega
  ·cases e)
 have hOw : OwnR w4 N ov T := T4.own.mono (by omega)
 have Hf := Lib.hid (HRp.out _ w4 ⟨ov, rfl, hOw, T4.all, T4.log, M5⟩)
 clear T4 M4 O4 M5 hOw cu hwn hws hbN
 go_wp2_with fail
 go_ret2
 exact Hf.out
def sinceD (wd : Nat) (L : List Dg) (n s : Nat) : List Dg := if n = 0 ∨ n = s then [] else sinceP wd L 0 n s true
theorem Since_yes (w : World) (B p b : Nat) (lv : Value) (wd : Nat) (L : List Dg) (n s : Nat) (h : Hid (LogB w B p b lv wd L)) (hw : 1 ≤ wd) (hwd : wd ≤ 32) (hs : s ≤ L.length) (hn : n ≤ s) :
  Calls Try.prog 29 #[.pointer (some ⟨p, 0, none⟩), .int .u64 (n : Int), .int .u64 (s : Int)] w (ListPost w B p b lv wd L (sinceD wd L n s)) := by
 unfold sinceD
 by_cases h0 : n = 0 ∨ n = s
 ·rw [if_pos h0]
  exact (Since_end w B p b lv wd L n s h hw hs h0).mono (fun e w' hq => ⟨_, hq.1, OwnR.nil _ _, All32.nil, h.out.below hq.2, Mod.of _ hq.2⟩)
 ·rw [if_neg h0]
  exact Since_go w B p b lv wd L n s h hw hwd hs (by omega) (by omega)
end Go.Proofs.Ytihbhpggpnmifaa
