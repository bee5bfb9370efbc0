/-
  The walk of the document's under. The walk of the document's Steps. The walk of the document's Clash, where two unlike knots of one digest are among the steps. A head that is gone on from by a log's own head is the log's own, or two unlike knots have one digest: in plain words. The walk of RingsOnly. RingsOnly.
-/
import Derived.Test.YtihbhpggpnmifaaGV
import Derived.Test.YtihbhpggpnmifaaGZ
import Derived.Test.YtihbhpggpnmifaaGW
import Derived.Test.YtihbhpggpnmifaaHD
set_option linter.unusedSimpArgs false
set_option linter.unusedVariables false
namespace Go.Proofs.Ytihbhpggpnmifaa
open Go.RowKit Go.Lib Hw
set_option linter.unusedVariables false

/-- all knots below the ring of some leaves -/
def underF (w : Nat) : Nat → List Dg → List Dg
  | 0, _ => []
  | f + 1, l => if l.length < 2 then [] else underF w f (l.take (halfN l.length)) ++ (underF w f (l.drop (halfN l.length)) ++ [ringD w (l.take (halfN l.length)) ++ ringD w (l.drop (halfN l.length))])
def underP (w : Nat) (l : List Dg) : List Dg := underF w l.length l
theorem underF_fuel (w : Nat) : ∀ (f g : Nat) (l : List Dg), l.length ≤ f → l.length ≤ g → underF w f l = underF w g l
  | 0, 0, l, h1, h2 => rfl
  | 0, g + 1, l, h1, h2 => by rw [underF, underF, if_pos (by omega)]
  | f + 1, 0, l, h1, h2 => by rw [underF, underF, if_pos (by omega)]
  | f + 1, g + 1, l, h1, h2 => by
    rw [underF, underF]
    by_cases h : l.length < 2
    · rw [if_pos h, if_pos h]
    · have hs := half_spec (n := l.length) (by omega)
      rw [if_neg h, if_neg h, underF_fuel w f g _ (by rw [List.length_take]; omega) (by rw [List.length_take]; omega), underF_fuel w f g (l.drop _) (by rw [List.length_drop]; omega) (by rw [List.length_drop]; omega)]
theorem underP_small (w : Nat) (l : List Dg) (h : l.length < 2) : underP w l = [] := by
  unfold underP
  cases hl : l.length with
  | zero => rfl
  | succ n => rw [underF, if_pos (by omega)]
theorem underP_more (w : Nat) (l : List Dg) (h : 2 ≤ l.length) : underP w l = underP w (l.take (halfN l.length)) ++ (underP w (l.drop (halfN l.length)) ++ [ringD w (l.take (halfN l.length)) ++ ringD w (l.drop (halfN l.length))]) := by
  have hs := half_spec h
  obtain ⟨n, hn⟩ : ∃ n, l.length = n + 1 := ⟨l.length - 1, by omega⟩
  unfold underP
  rw [hn, underF, if_neg (by omega), hn, underF_fuel w n (l.take (halfN (n + 1))).length _ (by rw [List.length_take]; rw [hn] at hs; omega) (Nat.le_refl _), underF_fuel w n (l.drop (halfN (n + 1))).length _ (by rw [List.length_drop]; rw [hn] at hs; omega) (Nat.le_refl _)]
theorem underP_all (w : Nat) : ∀ (n : Nat) (l : List Dg), l.length = n → All32 l → All64 (underP w l) ∧ (underP w l).length ≤ n - 1 := by
  intro n
  induction n using Nat.strongRecOn with
  | _ n ih =>
    intro l hl hA
    by_cases h : l.length < 2
    · rw [underP_small w l h]; exact ⟨All64.nil, Nat.zero_le _⟩
    · have hs := half_spec (n := l.length) (by omega)
      rw [underP_more w l (by omega)]
      have i1 := ih (halfN l.length) (by omega) (l.take (halfN l.length)) (by rw [List.length_take]; omega) (hA.take _)
      have i2 := ih (l.length - halfN l.length) (by omega) (l.drop (halfN l.length)) (by rw [List.length_drop]) (hA.drop _)
      refine ⟨fun d hd => ?_, ?_⟩
      · rcases List.mem_append.1 hd with hd | hd
        · exact i1.1 d hd
        rcases List.mem_append.1 hd with hd | hd
        · exact i2.1 d hd
        · rw [List.mem_singleton.1 hd, List.length_append, ringD_length w _ (hA.take _), ringD_length w _ (hA.drop _)]
      · rw [List.length_append, List.length_append, List.length_singleton]
        have := i1.2
        have := i2.2
        omega
def UnderPost (w : World) (B : Nat) (ov : Value) (ys : List Dg) (e : Ending) (w' : World) : Prop :=
  ∃ ov', e = .returned ov' ∧ OwnQ w' B ov' ys ∧ Mod (fun k => ov.ownBlock = some k) w w' ∧ ∀ g, ov'.ownBlock = some g → ov.ownBlock = some g ∨ w.heap.size ≤ g
set_option maxRecDepth 4000 in
set_option maxHeartbeats 8000000 in
theorem under_any (m : Nat) (h1m : 1 ≤ m) (hm : m ≤ 32) : ∀ (n : Nat) (v : Value) (l : List Dg) (w : World) (lim B : Nat) (ov : Value) (xs : List Dg), l.length = n → Hid (DRow w lim v l) → lim ≤ B → B ≤ w.heap.size → Hid (OwnQ w B ov xs) → n ≤ 1000 → xs.length + n ≤ 100000 →
    Calls Try.prog 61 #[.int .i64 (m : Int), v, ov] w (UnderPost w B ov (xs ++ underP m l)) := by
  intro n
  induction n using Nat.strongRecOn with
  | _ n ih =>
    intro v l w lim B ov xs hln hd hlim hBz ho hn hxn
    have IH := Lib.hid ih
    clear ih
    have HA : Hid (All32 l) := hd.out.1
    have HR : Hid (underP m l = if l.length < 2 then [] else underP m (l.take (halfN l.length)) ++ (underP m (l.drop (halfN l.length)) ++ [ringD m (l.take (halfN l.length)) ++ ringD m (l.drop (halfN l.length))])) := by
      show _ = _
      by_cases h : l.length < 2
      · rw [if_pos h, underP_small m l h]
      · rw [if_neg h]; exact underP_more m l (by omega)
    obtain ⟨R, hR⟩ : ∃ R, xs ++ underP m l = R := ⟨_, rfl⟩
    rw [hR]
    have HRR := Lib.hid hR
    clear hR
    obtain ⟨_, ad, c, rfl, hc1, hc2, hrow⟩ := hd.out
    have HRow := Lib.hid hrow
    clear hrow
    rw [hln] at hd hc1 ⊢
    have HLn := Lib.hid hln
    obtain ⟨N, hN⟩ : ∃ N, w.heap.size = N := ⟨_, rfl⟩
    have HN := Lib.hid hN
    clear hN
    by_cases hn2 : n < 2
    case pos =>
      have hr2 := HR.out
      rw [if_pos (by omega)] at hr2
      have hr3 := HRR.out
      rw [hr2, List.append_nil] at hr3
      subst hr3
      have q1 : decide ((n : Int) < 2) = true := decide_eq_true (by omega)
      have q2 : decide (n < 2) = true := decide_eq_true hn2
      clear hr2 hln
      go_enter Try.func61, Try.ntmps61
      go_wp2_with fail
      go_ret
      exact ⟨ov, rfl, ho.out, Mod.refl _ _, fun g hg => .inl hg⟩
    case neg =>
      have q1 : decide ((n : Int) < 2) = false := decide_eq_false (by omega)
      have q2 : decide (n < 2) = false := decide_eq_false hn2
      have hr2 := HR.out
      rw [if_neg (by omega)] at hr2
      have hs := half_spec (n := n) (by omega)
      rw [hln] at hr2
      obtain ⟨k, hk⟩ : ∃ k, halfN n = k := ⟨_, rfl⟩
      rw [hk] at hs hr2
      obtain ⟨hs1, hs2, hs3⟩ := hs
      have HXl : Hid ((ringD m (l.take k)).length = 32) := ringD_length m _ (HA.out.take k)
      have HYl : Hid ((ringD m (l.drop k)).length = 32) := ringD_length m _ (HA.out.drop k)
      obtain ⟨b, o, hb, _, hbw, _⟩ := HRow.out (by omega)
      subst hb
      have hlt : (l.take k).length = k := by rw [List.length_take]; omega
      have hld : (l.drop k).length = n - k := by rw [List.length_drop, hln]
      have hua := (underP_all m k (l.take k) hlt (HA.out.take k)).2
      have hub := (underP_all m (n - k) (l.drop k) hld (HA.out.drop k)).2
      obtain ⟨U1, hU1⟩ : ∃ x, underP m (l.take k) = x := ⟨_, rfl⟩
      obtain ⟨U2, hU2⟩ : ∃ x, underP m (l.drop k) = x := ⟨_, rfl⟩
      rw [hU1] at hua hr2
      rw [hU2] at hub hr2
      obtain ⟨X, hX⟩ : ∃ X, ringD m (l.take k) = X := ⟨_, rfl⟩
      obtain ⟨Y, hY⟩ : ∃ Y, ringD m (l.drop k) = Y := ⟨_, rfl⟩
      rw [hX] at HXl hr2
      rw [hY] at HYl hr2
      have HR2 : Hid (R = ((xs ++ U1) ++ U2) ++ [X ++ Y]) := by
        show _ = _
        rw [← HRR.out, hr2]
        simp
      have HX := Lib.hid hX
      have HY := Lib.hid hY
      have HU1 := Lib.hid hU1
      have HU2 := Lib.hid hU2
      have Hua := Lib.hid hua
      have Hub := Lib.hid hub
      have HKn := Lib.hid hk
      have Hlt := Lib.hid hlt
      have Hld := Lib.hid hld
      have hkl : k ≤ l.length := by omega
      have Hkl := Lib.hid hkl
      clear hX hY hk hlt hld HRow HR HRR hln hkl HLn hr2 hU1 hU2 hua hub
      go_enter Try.func61, Try.ntmps61
      go_upto_region 3 with fail
      with_reducible refine wp_region_list ?_
      (with_reducible refine wpList_plain rfl ?_); intro K hK; go_simp; (with_reducible refine hK _ _ ?_); clear hK K; try simp only [Act.put, nA, nB, nC]
      (with_reducible refine wpList_plain rfl ?_); intro K hK; go_simp; (with_reducible refine hK _ _ ?_); clear hK K; try simp only [Act.put, nA, nB, nC]
      with_reducible refine wpList_plain rfl ?_
      intro K hK
      go_simp
      refine (refHalf_any n _ (by omega) (by omega)).mono ?_; rintro e w2 ⟨rfl, rfl⟩; rw [HKn.out]
      first | with_reducible refine hK _ _ ?_ | refine hK _ _ ?_
      clear hK K
      (try simp only [Act.put, nA, nB, nC])
      (with_reducible refine wpList_plain rfl ?_); intro K hK; go_simp; (with_reducible refine hK _ _ ?_); clear hK K; try simp only [Act.put, nA, nB, nC]
      clear q1 q2
      have ik : (k : Int) ≤ (n : Int) := by omega
      have kc : k ≤ c := by omega
      have kne : ¬ c = k := by omega
      go_upto_region 4 with fail
      with_reducible refine wp_region_list ?_
      (with_reducible refine wpList_plain rfl ?_); intro K hK; go_simp; (with_reducible refine hK _ _ ?_); clear hK K; try simp only [Act.put, nA, nB, nC]
      (with_reducible refine wpList_plain rfl ?_); intro K hK; go_simp; (with_reducible refine hK _ _ ?_); clear hK K; try simp only [Act.put, nA, nB, nC]
      (with_reducible refine wpList_plain rfl ?_); intro K hK; go_simp; (with_reducible refine hK _ _ ?_); clear hK K; try simp only [Act.put, nA, nB, nC]
      (with_reducible refine wpList_plain rfl ?_); intro K hK; go_simp; (with_reducible refine hK _ _ ?_); clear hK K; try simp only [Act.put, nA, nB, nC]
      (with_reducible refine wpList_plain rfl ?_); intro K hK; go_simp; (with_reducible refine hK _ _ ?_); clear hK K; try simp only [Act.put, nA, nB, nC]
      with_reducible refine wpList_plain rfl ?_
      intro K hK
      go_simp
      refine (IH.out k hs2 _ (l.take k) w lim B ov xs Hlt.out (Lib.hid (hd.out.take k Hkl.out)) hlim hBz ho (by omega) (by omega)).mono ?_; rintro e w1 ⟨ov1, rfl, o1, m1, f1⟩; rw [HU1.out] at o1
      first | with_reducible refine hK _ _ ?_ | refine hK _ _ ?_
      clear hK K
      (try simp only [Act.put, nA, nB, nC])
      have hz1 := m1.size
      have D1 := Lib.hid (hd.out.mod m1 (fun k hk e => by have := (ho.out.lt k e).1; omega))
      have O1 := Lib.hid o1
      have M1 := Lib.hid m1
      have F1 := Lib.hid f1
      clear o1 m1 f1 hd ho
      (with_reducible refine wpList_plain rfl ?_); intro K hK; go_simp; (with_reducible refine hK _ _ ?_); clear hK K; try simp only [Act.put, nA, nB, nC]
      go_upto_region 5 with fail
      with_reducible refine wp_region_list ?_
      (with_reducible refine wpList_plain rfl ?_); intro K hK; go_simp; (with_reducible refine hK _ _ ?_); clear hK K; try simp only [Act.put, nA, nB, nC]
      (with_reducible refine wpList_plain rfl ?_); intro K hK; go_simp; (with_reducible refine hK _ _ ?_); clear hK K; try simp only [Act.put, nA, nB, nC]
      (with_reducible refine wpList_plain rfl ?_); intro K hK; go_simp; (with_reducible refine hK _ _ ?_); clear hK K; try simp only [Act.put, nA, nB, nC]
      (with_reducible refine wpList_plain rfl ?_); intro K hK; go_simp; (with_reducible refine hK _ _ ?_); clear hK K; try simp only [Act.put, nA, nB, nC]
      (with_reducible refine wpList_plain rfl ?_); intro K hK; go_simp; (with_reducible refine hK _ _ ?_); clear hK K; try simp only [Act.put, nA, nB, nC]
      have hx1 : (xs ++ U1).length + (n - k) ≤ 100000 := by rw [List.length_append]; have := Hua.out; omega
      with_reducible refine wpList_plain rfl ?_
      intro K hK
      go_simp
      refine (IH.out (n - k) (by omega) _ (l.drop k) w1 lim B ov1 (xs ++ U1) Hld.out (Lib.hid (D1.out.dropAt k Hkl.out)) hlim (by omega) O1 (by omega) hx1).mono ?_; rintro e w2 ⟨ov2, rfl, o2, m2, f2⟩; rw [HU2.out] at o2
      first | with_reducible refine hK _ _ ?_ | refine hK _ _ ?_
      clear hK K
      (try simp only [Act.put, nA, nB, nC])
      have hz2 := m2.size
      have D2 := Lib.hid (D1.out.mod m2 (fun k hk e => by have := (O1.out.lt k e).1; omega))
      have O2 := Lib.hid o2
      have M2 : Hid (Mod (fun k => ov.ownBlock = some k) w w2) := M1.out.trans m2 (fun k hk e => (F1.out k e).elim id (fun h => by have := HN.out; omega))
      have F2 : Hid (∀ g, ov2.ownBlock = some g → ov.ownBlock = some g ∨ w.heap.size ≤ g) := fun g hg => (f2 g hg).elim (F1.out g) (fun h => .inr (by omega))
      clear o2 m2 f2 D1 O1 M1 F1 IH
      (with_reducible refine wpList_plain rfl ?_); intro K hK; go_simp; (with_reducible refine hK _ _ ?_); clear hK K; try simp only [Act.put, nA, nB, nC]
      have hx2 : ((xs ++ U1) ++ U2).length ≤ 100000 := by rw [List.length_append]; have := Hub.out; omega
      obtain ⟨Z, hZ⟩ : ∃ Z, (xs ++ U1) ++ U2 = Z := ⟨_, rfl⟩
      have hr3 := HR2.out
      rw [hZ] at hx2 O2 hr3
      have HR3 := Lib.hid hr3
      clear hZ hx1 hr3 HR2
      have hlim2 : lim ≤ w2.heap.size := by omega
      have hBz2 : B ≤ w2.heap.size := by omega
      have D2d : Hid (DRow w2.drew w2.drew.heap.size (.slice (some ⟨b, o, none⟩) k c) (l.take k)) := Lib.hid ((D2.out.mono hlim2).take k Hkl.out)
      go_upto_region 6 with fail
      refine wp_region_held_drew (S := fun _ => True) (by kernel_rfl) trivial (fun hHeld => ?_)
      refine' wpAnyH_take (i := 0) (oi := ⟨some 27, .move (.tmp 2), 51, "ref.go:235", #[], none⟩) rfl (by kernel_rfl) (by kernel_rfl) (by kernel_rfl) (fun _ _ _ h => h) (Or.inl ⟨by rfl, _⟩) (by assumption) _
      rotate_left
      · (intro wS hSw; (try dsimp only at hSw); go_simp; try with_reducible rfl)
      try simp only [Act.put, nA, nB, nC]
      refine' wpAnyH_take (i := 1) (oi := ⟨some 28, .move (.tmp 0), 3, "ref.go:235", #[], none⟩) rfl (by kernel_rfl) (by kernel_rfl) (by kernel_rfl) (fun _ _ _ h => h) (Or.inl ⟨by rfl, _⟩) (by assumption) _
      rotate_left
      · (intro wS hSw; (try dsimp only at hSw); go_simp; try with_reducible rfl)
      try simp only [Act.put, nA, nB, nC]
      refine' wpAnyH_take (i := 2) (oi := ⟨some 29, .move (.tmp 1), 32, "ref.go:235", #[], none⟩) rfl (by kernel_rfl) (by kernel_rfl) (by kernel_rfl) (fun _ _ _ h => h) (Or.inl ⟨by rfl, _⟩) (by assumption) _
      rotate_left
      · (intro wS hSw; (try dsimp only at hSw); go_simp; try with_reducible rfl)
      try simp only [Act.put, nA, nB, nC]
      refine' wpAnyH_take (i := 3) (oi := ⟨some 30, .move (.tmp 7), 3, "ref.go:235", #[], none⟩) rfl (by kernel_rfl) (by kernel_rfl) (by kernel_rfl) (fun _ _ _ h => h) (Or.inl ⟨by rfl, _⟩) (by assumption) _
      rotate_left
      · (intro wS hSw; (try dsimp only at hSw); go_simp; try with_reducible rfl)
      try simp only [Act.put, nA, nB, nC]
      refine' wpAnyH_take (i := 4) (oi := ⟨some 31, .slice 32 (.tmp 29) none (some (.tmp 30)) none, 32, "ref.go:235", #[⟨2, .data⟩, ⟨3, .data⟩], none⟩) rfl (by kernel_rfl) (by kernel_rfl) (by kernel_rfl) (fun _ _ _ h => h) (Or.inl ⟨by rfl, _⟩) (by assumption) _
      rotate_left
      · (intro wS hSw; (try dsimp only at hSw); go_simp; try with_reducible rfl)
      try simp only [Act.put, nA, nB, nC]
      refine' wpAnyH_take (i := 6) (oi := ⟨some 33, .move (.tmp 0), 3, "ref.go:235", #[], none⟩) rfl (by kernel_rfl) (by kernel_rfl) (by kernel_rfl) (fun _ _ _ h => h) (Or.inl ⟨by rfl, _⟩) (by assumption) _
      rotate_left
      · (intro wS hSw; (try dsimp only at hSw); go_simp; try with_reducible rfl)
      try simp only [Act.put, nA, nB, nC]
      refine' wpAnyH_take (i := 7) (oi := ⟨some 34, .move (.tmp 1), 32, "ref.go:235", #[], none⟩) rfl (by kernel_rfl) (by kernel_rfl) (by kernel_rfl) (fun _ _ _ h => h) (Or.inl ⟨by rfl, _⟩) (by assumption) _
      rotate_left
      · (intro wS hSw; (try dsimp only at hSw); go_simp; try with_reducible rfl)
      try simp only [Act.put, nA, nB, nC]
      refine' wpAnyH_take (i := 8) (oi := ⟨some 35, .move (.tmp 7), 3, "ref.go:235", #[], none⟩) rfl (by kernel_rfl) (by kernel_rfl) (by kernel_rfl) (fun _ _ _ h => h) (Or.inl ⟨by rfl, _⟩) (by assumption) _
      rotate_left
      · (intro wS hSw; (try dsimp only at hSw); go_simp; try with_reducible rfl)
      try simp only [Act.put, nA, nB, nC]
      refine' wpAnyH_take (i := 9) (oi := ⟨some 36, .slice 32 (.tmp 34) (some (.tmp 35)) none none, 32, "ref.go:235", #[⟨7, .data⟩, ⟨8, .data⟩], none⟩) rfl (by kernel_rfl) (by kernel_rfl) (by kernel_rfl) (fun _ _ _ h => h) (Or.inl ⟨by rfl, _⟩) (by assumption) _
      rotate_left
      · (intro wS hSw; (try dsimp only at hSw); go_simp; try with_reducible rfl)
      try simp only [Act.put, nA, nB, nC]
      refine wpAnyH_ready (rs := [5]) (by kernel_rfl) (by simp) ?_
      refine AllReadyH.cons (o := ⟨some 32, .call ⟨.value (.func 54), #[.tmp 28, .tmp 31], #[3, 32]⟩, 23, "ref.go:235", #[⟨1, .data⟩, ⟨4, .data⟩], none⟩) rfl (fun K hK => ?_) AllReadyH.nil
      (go_simp; (go_at_call 54; refine (refRing_any m h1m hm k _ (l.take k) _ Hlt.out D2d (by omega)).mono ?_; rintro e w3 ⟨rfl, hb'⟩; rw [HX.out]; have hb3 : Below w2.heap.size w2 w3 := Below.trans (Below.refl _ _).drew hb'))
      refine hK.out _ _ ?_ (fun hHeld => ?_)
      · trivial
      clear hK K
      try simp only [Act.put, nA, nB, nC]
      have D3 := Lib.hid ((D2.out.mono hlim2).low hb3 (Nat.le_refl _))
      have O3 := Lib.hid (O2.out.below hb3 (fun g hg => (O2.out.lt g hg).2))
      have M3 : Hid (Mod (fun k => ov.ownBlock = some k) w w3) := M2.out.then (Mod.of _ hb3)
      have hz3 := hb3.size
      clear hb3 hb' D2 O2 M2 D2d
      refine wpAnyH_ready (rs := [10]) (by kernel_rfl) (by simp) ?_
      refine AllReadyH.cons (o := ⟨some 37, .call ⟨.value (.func 54), #[.tmp 33, .tmp 36], #[3, 32]⟩, 23, "ref.go:235", #[⟨6, .data⟩, ⟨9, .data⟩, ⟨5, .chain⟩], none⟩) rfl (fun K hK => ?_) AllReadyH.nil
      (go_simp; (go_at_call 54; refine (refRing_any m h1m hm (n - k) _ (l.drop k) w3 Hld.out (Lib.hid ((D3.out.dropAt k Hkl.out).mono hz3)) (by omega)).mono ?_; rintro e w4 ⟨rfl, hb4⟩; rw [HY.out]))
      refine hK.out _ _ ?_ (fun hHeld => ?_)
      · trivial
      clear hK K
      try simp only [Act.put, nA, nB, nC]
      have O4 := Lib.hid (O3.out.below hb4 (fun g hg => (O3.out.lt g hg).2))
      have M4 : Hid (Mod (fun k => ov.ownBlock = some k) w w4) := M3.out.then (Mod.of _ hb4)
      have hz4 := hb4.size
      clear hb4 D3 O3 M3
      refine' wpAnyH_take (i := 11) (oi := ⟨some 38, .build 106 #[(0, .tmp 32), (1, .tmp 37)], 106, "ref.go:235", #[⟨5, .data⟩, ⟨10, .data⟩], none⟩) rfl (by kernel_rfl) (by kernel_rfl) (by kernel_rfl) (fun _ _ _ h => h) (Or.inl ⟨by rfl, _⟩) (by assumption) _
      rotate_left
      · intro wS hSw
        exact build_Q _ _ _ _ rfl X Y HXl.out HYl.out rfl rfl wS
      (try simp only [Act.put, nA, nB, nC])
      refine wpAnyH_ready (rs := [12]) (by kernel_rfl) (by simp) ?_
      refine (AllReadyH.cons (o := ⟨some 39, .buildSlice 51 1 #[(0, .tmp 38)], 51, "ref.go:235", #[⟨11, .data⟩], none⟩) rfl (fun K hK => ?_) AllReadyH.nil)
      obtain ⟨q, hq⟩ : ∃ q, w4.heap.size = q := ⟨_, rfl⟩
      set_option maxRecDepth 20000 in
      refine step_of rfl (wp_sliceQ _ rfl (X ++ Y) (by rw [List.length_append, HXl.out, HYl.out]) rfl q hq ?_)
      intro w5 e5 b5 z5
      have hb5 : Below w4.heap.size w4 w5 := (by rw [hq]; exact b5)
      have O5 := Lib.hid (O4.out.below hb5 (fun g hg => (O4.out.lt g hg).2))
      have M5 : Hid (Mod (fun k => ov.ownBlock = some k) w w5) := M4.out.then (Mod.of _ hb5)
      have Lit := Lib.hid e5
      clear e5 b5 hb5 O4 M4
      refine hK.out _ _ ?_ (fun hHeld => ?_)
      · trivial
      clear hK K
      (try simp only [Act.put, nA, nB, nC])
      refine wpAnyH_ready (rs := [13]) (by kernel_rfl) (by simp) ?_
      refine (AllReadyH.cons (o := ⟨some 40, .call ⟨.builtin .append, #[.tmp 27, .tmp 39], #[51, 51]⟩, 51, "ref.go:235", #[⟨0, .data⟩, ⟨12, .data⟩, ⟨10, .chain⟩], none⟩) rfl (fun K hK => ?_) AllReadyH.nil)
      set_option maxRecDepth 20000 in
      refine step_of rfl (wp_appQ w5 (X ++ Y) (by rw [List.length_append, HXl.out, HYl.out]) _ _ rfl B ov2 Z rfl O5.out q 1 rfl Lit.out (by omega) (by omega) ?_)
      intro g2 cap2 w6 ho6 hg6 hs6
      have O6 := Lib.hid ho6
      have M6 : Hid (Mod (fun k => ov.ownBlock = some k) w w6) := M5.out.trans (Mod.grown (S := fun k => ov2.ownBlock = some k) hg6 (fun k e => e)) (fun k hk e => (F2.out k e).elim id (fun h => by omega))
      have F6 : Hid (∀ g, (Value.slice (some ⟨g2, 0, none⟩) (Z.length + 1) cap2).ownBlock = some g → ov.ownBlock = some g ∨ w.heap.size ≤ g) := fun g hg => by
        have e : g2 = g := Option.some.inj hg
        subst e
        rcases hs6 with h | h
        · exact F2.out g2 h
        · right; omega
      clear ho6 hg6 hs6 O5 M5 F2
      refine hK.out _ _ ?_ (fun hHeld => ?_)
      · trivial
      clear hK K
      (try simp only [Act.put, nA, nB, nC])
      refine' wpAnyH_take (i := 14) (oi := ⟨some 6, .assign (.tmp 40), 51, "ref.go:235", #[⟨13, .data⟩, ⟨13, .chain⟩, ⟨0, .phase⟩, ⟨1, .phase⟩, ⟨2, .phase⟩, ⟨3, .phase⟩, ⟨4, .phase⟩, ⟨5, .phase⟩, ⟨6, .phase⟩, ⟨7, .phase⟩, ⟨8, .phase⟩, ⟨9, .phase⟩, ⟨10, .phase⟩, ⟨11, .phase⟩, ⟨12, .phase⟩, ⟨13, .phase⟩], none⟩) rfl (by kernel_rfl) (by kernel_rfl) (by kernel_rfl) (fun _ _ _ h => h) (Or.inl ⟨by rfl, _⟩) (by assumption) _
      rotate_left
      · (intro wS hSw; (try dsimp only at hSw); go_simp; try with_reducible rfl)
      try simp only [Act.put, nA, nB, nC]
      refine wpAnyH_done (by kernel_rfl) ?_ _
      clear hHeld
      go_wp2_with fail
      go_ret
      rw [HR3.out]
      exact ⟨_, rfl, O6.out, M6.out, F6.out⟩
end Go.Proofs.Ytihbhpggpnmifaa

namespace Go.Proofs.Ytihbhpggpnmifaa
open Go.RowKit Go.Lib Hw
set_option linter.unusedVariables false

def stepsL (w : Nat) (l : List Dg) : Nat → List Dg
  | 0 => []
  | n + 1 => stepsL w l n ++ underP w (l.take n)
theorem stepsL_two (w : Nat) (l : List Dg) : stepsL w l 2 = [] := by
  rw [stepsL, stepsL, stepsL, underP_small w _ (by rw [List.length_take]; omega), underP_small w _ (by rw [List.length_take]; omega)]
  rfl
theorem stepsL_all (w : Nat) (l : List Dg) (hA : All32 l) : ∀ n, All64 (stepsL w l n) ∧ (stepsL w l n).length ≤ n * l.length
  | 0 => ⟨All64.nil, Nat.zero_le _⟩
  | n + 1 => by
    have ih := stepsL_all w l hA n
    have hu := underP_all w (l.take n).length (l.take n) rfl (hA.take n)
    rw [stepsL]
    refine ⟨fun d hd => (List.mem_append.1 hd).elim (ih.1 d) (hu.1 d), ?_⟩
    rw [List.length_append, Nat.add_mul, Nat.one_mul]
    have h2 := hu.2
    have h3 : (l.take n).length ≤ l.length := List.length_take_le' ..
    omega
set_option maxHeartbeats 4000000 in
theorem Steps_any (m : Nat) (h1m : 1 ≤ m) (hm : m ≤ 32) (v : Value) (l : List Dg) (w : World) (hd : Hid (DRow w w.heap.size v l)) (hl : l.length ≤ 50) :
    Calls Try.prog 32 #[.int .i64 (m : Int), v] w fun e w' => ∃ ov, e = .returned ov ∧ OwnQ w' w.heap.size ov (stepsL m l (l.length + 1)) ∧ Below w.heap.size w w' := by
  have HA : Hid (All32 l) := hd.out.1
  obtain ⟨_, ad, c, rfl, hc1, hc2, hrow⟩ := hd.out
  clear hrow
  obtain ⟨N, hN⟩ : ∃ N, w.heap.size = N := ⟨_, rfl⟩
  have HN := Lib.hid hN
  rw [hN] at hd ⊢
  obtain ⟨T, hT⟩ : ∃ T, l.length = T := ⟨_, rfl⟩
  rw [hT] at hd hl hc1 ⊢
  have HT := Lib.hid hT
  clear hN hT
  go_enter Try.func32, Try.ntmps32
  go_upto_region 3 with fail
  by_cases hT2 : T < 2
  case pos =>
    have q1 : decide ((2 : Int) ≤ (T : Int)) = false := decide_eq_false (by omega)
    have q2 : decide (2 ≤ T) = false := decide_eq_false (by omega)
    have hs : stepsL m l (T + 1) = [] := by
      have h2 : T = 0 ∨ T = 1 := by omega
      rcases h2 with rfl | rfl
      · rw [stepsL, stepsL, underP_small m _ (by rw [List.length_take]; omega)]; rfl
      · exact stepsL_two m l
    have HSn := Lib.hid hs
    clear hs
    go_loopw [5, 6] (fun ov i wr => ov = .slice none 0 0 ∧ i = .int .i64 2 ∧ wr = w) (fun _ _ _ => 0)
    case atStart => exact ⟨rfl, rfl, rfl⟩
    case round =>
      obtain ⟨rfl, rfl, rfl⟩ := hrel
      go_wp2_with fail
      go_ret
      exact ⟨_, rfl, by rw [HSn.out]; exact OwnQ.nil _ _, by rw [← HN.out]; exact Below.refl _ _⟩
  case neg =>
    go_loopw [5, 6] (fun ov i wr => ∃ (n : Nat), 2 ≤ n ∧ n ≤ T + 1 ∧ Hid (OwnQ wr N ov (stepsL m l n)) ∧ Hid (Below N w wr) ∧ i = .int .i64 (n : Int)) (fun _ i _ => T + 1 - (intOf i).toNat)
    case atStart => exact ⟨2, Nat.le_refl _, by omega, by rw [stepsL_two]; exact OwnQ.nil _ _, by rw [← HN.out]; exact Below.refl _ _, rfl⟩
    case round =>
      obtain ⟨n, hn2, hnT, HO, HB, rfl⟩ := hrel
      by_cases hlt : n ≤ T
      case pos =>
        have dk : decide (n ≤ T) = true := decide_eq_true hlt
        have dk2 : decide ((n : Int) ≤ (T : Int)) = true := decide_eq_true (by omega)
        have ik : (n : Int) ≤ (T : Int) := by omega
        have kc : n ≤ c := by omega
        have hz := HB.out.size
        have hNN := HN.out
        have D := Lib.hid ((hd.out.low HB.out (by omega)).take n (by rw [HT.out]; exact hlt))
        have hll : (l.take n).length = n := by rw [List.length_take, HT.out]; omega
        have hsl := (stepsL_all m l HA.out n).2
        rw [HT.out] at hsl
        have hnT2 : n * T ≤ 51 * 50 := Nat.mul_le_mul (by omega) hl
        have hx : (stepsL m l n).length + n ≤ 100000 := by omega
        have HS : Hid (stepsL m l (n + 1) = stepsL m l n ++ underP m (l.take n)) := rfl
        obtain ⟨Z, hZ⟩ : ∃ Z, stepsL m l n = Z := ⟨_, rfl⟩
        rw [hZ] at HO HS hx
        have Hll := Lib.hid hll
        have hBz : N ≤ wr.heap.size := by omega
        clear hll hsl hnT2 hZ hNN
        go_upto_region 5 with fail
        with_reducible refine wp_region_list ?_
        (with_reducible refine wpList_plain rfl ?_); intro K hK; go_simp; (with_reducible refine hK _ _ ?_); clear hK K; try simp only [Act.put, nA, nB, nC]
        (with_reducible refine wpList_plain rfl ?_); intro K hK; go_simp; (with_reducible refine hK _ _ ?_); clear hK K; try simp only [Act.put, nA, nB, nC]
        (with_reducible refine wpList_plain rfl ?_); intro K hK; go_simp; (with_reducible refine hK _ _ ?_); clear hK K; try simp only [Act.put, nA, nB, nC]
        (with_reducible refine wpList_plain rfl ?_); intro K hK; go_simp; (with_reducible refine hK _ _ ?_); clear hK K; try simp only [Act.put, nA, nB, nC]
        (with_reducible refine wpList_plain rfl ?_); intro K hK; go_simp; (with_reducible refine hK _ _ ?_); clear hK K; try simp only [Act.put, nA, nB, nC]
        with_reducible refine wpList_plain rfl ?_
        intro K hK
        go_simp
        refine (under_any m h1m hm n _ (l.take n) wr N N _ Z Hll.out D (Nat.le_refl _) hBz HO (by omega) hx).mono ?_; rintro e w1 ⟨ov1, rfl, o1, m1, f1⟩
        first | with_reducible refine hK _ _ ?_ | refine hK _ _ ?_
        clear hK K
        (try simp only [Act.put, nA, nB, nC])
        have HB2 := Lib.hid (HB.out.trans (m1.below (n := N) (fun k hk e => by have := (HO.out.lt k e).1; omega) hBz))
        have HO2 : Hid (OwnQ w1 N ov1 (stepsL m l (n + 1))) := by show OwnQ _ _ _ _; rw [HS.out]; exact o1
        clear o1 m1 f1 HB HO D
        (with_reducible refine wpList_plain rfl ?_); intro K hK; go_simp; (with_reducible refine hK _ _ ?_); clear hK K; try simp only [Act.put, nA, nB, nC]
        go_wp2_with fail
        exact ⟨⟨n + 1, by omega, by omega, HO2, HB2, by go_num⟩, by simp [intOf]; omega⟩
      case neg =>
        have dk : decide (n ≤ T) = false := decide_eq_false hlt
        have dk2 : decide ((n : Int) ≤ (T : Int)) = false := decide_eq_false (by omega)
        obtain rfl : n = T + 1 := by omega
        go_wp2_with fail
        go_ret
        exact ⟨_, rfl, HO.out, HB.out⟩
end Go.Proofs.Ytihbhpggpnmifaa

namespace Go.Proofs.Ytihbhpggpnmifaa
open Go.RowKit Go.Lib Hw
set_option linter.unusedVariables false

theorem wpList_appQQ {ops : Array Oper} {rest : List Oper} {o : Oper} {a : Act} {w : World} {Q : Exit → Act → World → Prop} (hgd : o.guard = none) (s x : Operand) (ho : o.op = .call { callee := .builtin .append, args := #[s, x], argTypes := #[51, 51] })
    (B Bu : Nat) (v u : Value) (ys xs : List Dg) (hs : a.eval s = v) (hown : OwnQ w B v ys) (hx : a.eval x = u) (hu : OwnQ w Bu u xs) (hA : All64 xs) (hlen : (ys.length + xs.length) * 64 ≤ 140737488355328) (hB : B ≤ w.heap.size)
    (h : ∀ v' w', OwnQ w' B v' (ys ++ xs) → w.grownBy w' v.ownBlock → (v'.ownBlock = v.ownBlock ∨ v'.ownBlock = some w.heap.size) → wpList Try.prog ops Q rest (a.put o.dst v') w') : wpList Try.prog ops Q (o :: rest) a w := by
  obtain ⟨i, hi, hz0, hz1, hz2⟩ := info_parts infoQ
  have hu2 := hu.2
  rcases hu2 with ⟨rfl, h0⟩ | ⟨g, cap, cur, rfl, _⟩
  · obtain rfl : xs = [] := List.eq_nil_of_length_eq_zero h0
    rw [List.append_nil] at h
    exact wpList_append_own_none hgd s x 51 ho B 106 i 64 Try.underlying51 hi v ys.length (rowV ys) hs hown hx (h v w hown ⟨rfl, rfl, rfl, Nat.le_refl _, fun _ _ _ => rfl⟩ (.inl rfl))
  · refine wpList_append_own_at w hgd s x 51 ho B 106 i (dv zeros64) 64 64 Try.underlying51 hi hz0 hz1 hz2 rfl (by decide) v ys.length (rowV ys) hs hown ⟨g, 0, none⟩ xs.length cap (rowV xs) hx (rowV_len64 hA) ?_ (rowV_one xs) (by rw [maxLen_eq]; omega) hlen hB ?_
    · intro j u hju
      exact World.ownsRow.cells (w := w) hu (g := g) rfl j u hju
    · intro v' w' h1 h2 h3 h4
      refine h v' w' ?_ h2 h4
      unfold OwnQ
      rw [List.length_append, rowV_app]
      exact h1
/-- a step's knot -/
def knS (w : Nat) (s : Dg) : Dg := knotD w (s.take 32) (s.drop 32)
theorem knS_app (w : Nat) (x y : Dg) (hx : x.length = 32) : knS w (x ++ y) = knotD w x y := by
  unfold knS
  rw [List.take_left' hx, List.drop_left' hx]
set_option maxRecDepth 4000 in
set_option maxHeartbeats 16000000 in
theorem rClash_any (m : Nat) (h1m : 1 ≤ m) (hm : m ≤ 32) (va vb : Value) (A S : List Dg) (w : World) (Ba Bb : Nat) (ha : Hid (OwnQ w Ba va A)) (hb : Hid (OwnQ w Bb vb S)) (hA : Hid (All64 A)) (hS : Hid (All64 S)) (hla : A.length ≤ 100000) (hls : S.length ≤ 100000)
    (i0 k0 : Nat) (X0 Y0 : Dg) (hki : k0 < i0) (hX0 : Hid ((A ++ S)[i0]? = some X0)) (hY0 : Hid ((A ++ S)[k0]? = some Y0)) (hne : Hid (X0 ≠ Y0)) (hkn : Hid (knS m X0 = knS m Y0)) :
    Calls Try.prog 31 #[.int .i64 (m : Int), va, vb] w fun e w' => e = .returned (.bool true) ∧ Below w.heap.size w w' := by
  obtain ⟨N, hN⟩ : ∃ N, w.heap.size = N := ⟨_, rfl⟩
  have HN := Lib.hid hN
  rw [hN]
  clear hN
  go_enter Try.func31, Try.ntmps31
  go_upto_region 2 with fail
  with_reducible refine wp_region_list ?_
  (with_reducible refine wpList_plain rfl ?_); intro K hK; go_simp; (with_reducible refine hK _ _ ?_); clear hK K; try simp only [Act.put, nA, nB, nC]
  (with_reducible refine wpList_plain rfl ?_); intro K hK; go_simp; (with_reducible refine hK _ _ ?_); clear hK K; try simp only [Act.put, nA, nB, nC]
  refine wpList_appQQ rfl _ _ rfl N Ba (.slice none 0 0) va [] A rfl (OwnQ.nil w N) rfl ha.out hA.out (by simp; omega) (by rw [HN.out]; exact Nat.le_refl _) ?_
  intro v1 w1 o1 g1 n1
  (try simp only [Act.put, nA, nB, nC])
  have m1 : Mod (fun _ => False) w w1 := Mod.grown g1 (fun k e => by simp [Value.ownBlock] at e)
  have O1 : Hid (OwnQ w1 N v1 A) := o1
  have Hb1 := Lib.hid (hb.out.mod m1 (fun _ _ h => h))
  have B1 : Hid (Below N w w1) := m1.below (n := N) (fun _ _ h => h) (by rw [HN.out]; exact Nat.le_refl _)
  have hz1 := m1.size
  have hn1 : ∀ g, v1.ownBlock = some g → N ≤ g := fun g hg => (O1.out.lt g hg).1
  have Hn1 := Lib.hid hn1
  clear o1 g1 n1 m1 hn1
  (with_reducible refine wpList_plain rfl ?_); intro K hK; go_simp; (with_reducible refine hK _ _ ?_); clear hK K; try simp only [Act.put, nA, nB, nC]
  go_upto_region 3 with fail
  with_reducible refine wp_region_list ?_
  (with_reducible refine wpList_plain rfl ?_); intro K hK; go_simp; (with_reducible refine hK _ _ ?_); clear hK K; try simp only [Act.put, nA, nB, nC]
  (with_reducible refine wpList_plain rfl ?_); intro K hK; go_simp; (with_reducible refine hK _ _ ?_); clear hK K; try simp only [Act.put, nA, nB, nC]
  refine wpList_appQQ rfl _ _ rfl N Bb v1 vb A S rfl O1.out rfl Hb1.out hS.out (by omega) (by have := HN.out; omega) ?_
  intro v2 w2 o2 g2 n2
  (try simp only [Act.put, nA, nB, nC])
  have m2 : Mod (fun k => v1.ownBlock = some k) w1 w2 := Mod.grown g2 (fun k e => e)
  have HAll : Hid (All64 (A ++ S)) := fun d hd => (List.mem_append.1 hd).elim (hA.out d) (hS.out d)
  obtain ⟨C, hC⟩ : ∃ C, A ++ S = C := ⟨_, rfl⟩
  have hCl : C.length ≤ 200000 := by rw [← hC, List.length_append]; omega
  rw [hC] at o2 HAll hX0 hY0
  have O2 := Lib.hid o2
  have B2 := Lib.hid (B1.out.trans (m2.below (n := N) (fun k hk e => by have := Hn1.out k e; omega) (by have := HN.out; omega)))
  have hi0 : i0 < C.length := (List.getElem?_eq_some_iff.1 hX0.out).1
  have hz2 := m2.size
  clear o2 g2 n2 m2 O1 Hb1 B1 Hn1 hC
  (with_reducible refine wpList_plain rfl ?_); intro K hK; go_simp; (with_reducible refine hK _ _ ?_); clear hK K; try simp only [Act.put, nA, nB, nC]
  obtain ⟨g, cap, rfl⟩ := row64_form O2.out (by omega)
  obtain ⟨T, hT⟩ : ∃ T, C.length = T := ⟨_, rfl⟩
  rw [hT] at hCl hi0 O2 ⊢
  have HT := Lib.hid hT
  have hNz : N ≤ w2.heap.size := by have := HN.out; omega
  have HK : Hid (∀ (w : World) (j : Nat) (xa xb : Dg), C[j]? = some (xa ++ xb) → xa.length = 32 → xb.length = 32 → OwnQ w N (.slice (some ⟨g, 0, none⟩) T cap) C → w.rangeAt g (j * 64) (xa.map bv) ∧ w.rangeAt g (j * 64 + 32) (xb.map bv)) := fun w j xa xb hj h1 h2 ho => by
    obtain ⟨hl, he⟩ := List.getElem?_eq_some_iff.1 hj
    have hr := row64_range ho HAll.out j hl
    rw [he] at hr
    exact ⟨rng_left hr, rng_right h1 hr⟩
  clear hT
  go_upto_region 6 with fail
  go_loopw [8, 9] (fun sv i wr => ∃ (k : Nat), k ≤ T ∧ Hid (OwnR wr N sv ((C.take k).map (knS m))) ∧ Hid (OwnQ wr N (.slice (some ⟨g, 0, none⟩) T cap) C) ∧ Hid (Below N w wr) ∧ Hid (∀ h, sv.ownBlock = some h → h ≠ g) ∧ i = .int .i64 (k : Int)) (fun _ i _ => T - (intOf i).toNat)
  case atStart => exact ⟨0, Nat.zero_le _, OwnR.nil _ _, O2, B2, fun h hh => by simp [Value.ownBlock] at hh, rfl⟩
  case round =>
    obtain ⟨k, hk, HS, O, B, HG, rfl⟩ := hrel
    clear O2 B2 hz2 hz1
    have hNr : N ≤ wr.heap.size := by have := B.out.size; have := HN.out; omega
    by_cases hlt : k < T
    case pos =>
      have dk : decide (k < T) = true := decide_eq_true hlt
      have dk2 : decide ((k : Int) < (T : Int)) = true := decide_eq_true (by omega)
      have ik : (k : Int) < (T : Int) := by omega
      obtain ⟨X, hX⟩ : ∃ X, C[k]? = some X := ⟨_, List.getElem?_eq_getElem (by rw [HT.out]; exact hlt)⟩
      have hXl : X.length = 64 := HAll.out X (List.mem_of_getElem? hX)
      obtain ⟨xa, xb, rfl, hxa, hxb⟩ : ∃ xa xb, X = xa ++ xb ∧ xa.length = 32 ∧ xb.length = 32 := ⟨X.take 32, X.drop 32, (List.take_append_drop _ _).symm, by rw [List.length_take]; omega, by rw [List.length_drop]; omega⟩
      have hnx : (C.take (k + 1)).map (knS m) = (C.take k).map (knS m) ++ [knotD m xa xb] := by
        rw [List.take_add_one, hX, List.map_append, ← knS_app m xa xb hxa]
        rfl
      have hrl : ((C.take k).map (knS m)).length = k := by rw [List.length_map, List.length_take, HT.out]; omega
      have hra : All32 ((C.take k).map (knS m)) := fun d hd => by
        obtain ⟨s, _, rfl⟩ := List.mem_map.1 hd
        exact knotD_length _ _ _
      obtain ⟨Z, hZ⟩ : ∃ Z, (C.take k).map (knS m) = Z := ⟨_, rfl⟩
      obtain ⟨D, hD⟩ : ∃ D, knotD m xa xb = D := ⟨_, rfl⟩
      have hDl : Hid (D.length = 32) := by show _ = _; rw [← hD]; exact knotD_length _ _ _
      rw [hZ] at HS hnx hrl hra
      rw [hD] at hnx
      have HD := Lib.hid hD
      have HX := Lib.hid hX
      have Hxa := Lib.hid hxa
      have Hxb := Lib.hid hxb
      have HNx := Lib.hid hnx
      have HRl := Lib.hid hrl
      have HRa := Lib.hid hra
      clear hX hXl hxa hxb hnx hrl hra hZ hD
      have H1 := Lib.hid (HK.out wr k xa xb HX.out Hxa.out Hxb.out O.out)
      go_upto_region 8 with fail
      refine wp_region_held_drew (S := fun W => W.rangeAt g (k * 64) (xa.map bv) ∧ W.rangeAt g (k * 64 + 32) (xb.map bv)) (by kernel_rfl) H1.out (fun hHeld => ?_)
      refine' wpAnyH_take (i := 0) (oi := ⟨some 24, .move (.tmp 8), 32, "ref.go:245", #[], none⟩) rfl (by kernel_rfl) (by kernel_rfl) (by kernel_rfl) (fun _ _ _ h => h) (Or.inl ⟨by rfl, _⟩) (by assumption) _
      rotate_left
      · (intro wS hSw; (try dsimp only at hSw); go_simp; try with_reducible rfl)
      try simp only [Act.put, nA, nB, nC]
      refine' wpAnyH_take (i := 1) (oi := ⟨some 25, .move (.tmp 0), 3, "ref.go:245", #[], none⟩) rfl (by kernel_rfl) (by kernel_rfl) (by kernel_rfl) (fun _ _ _ h => h) (Or.inl ⟨by rfl, _⟩) (by assumption) _
      rotate_left
      · (intro wS hSw; (try dsimp only at hSw); go_simp; try with_reducible rfl)
      try simp only [Act.put, nA, nB, nC]
      refine' wpAnyH_take (i := 2) (oi := ⟨some 26, .move (.tmp 7), 51, "ref.go:245", #[], none⟩) rfl (by kernel_rfl) (by kernel_rfl) (by kernel_rfl) (fun _ _ _ h => h) (Or.inl ⟨by rfl, _⟩) (by assumption) _
      rotate_left
      · (intro wS hSw; (try dsimp only at hSw); go_simp; try with_reducible rfl)
      try simp only [Act.put, nA, nB, nC]
      refine' wpAnyH_take (i := 3) (oi := ⟨some 27, .move (.tmp 9), 3, "ref.go:245", #[], none⟩) rfl (by kernel_rfl) (by kernel_rfl) (by kernel_rfl) (fun _ _ _ h => h) (Or.inl ⟨by rfl, _⟩) (by assumption) _
      rotate_left
      · (intro wS hSw; (try dsimp only at hSw); go_simp; try with_reducible rfl)
      try simp only [Act.put, nA, nB, nC]
      refine' wpAnyH_take (i := 4) (oi := ⟨some 28, .indexAddr 51 (.tmp 26) (.tmp 27), 0, "ref.go:245", #[⟨2, .data⟩, ⟨3, .data⟩], none⟩) rfl (by kernel_rfl) (by kernel_rfl) (by kernel_rfl) (fun _ _ _ h => h) (Or.inl ⟨by rfl, _⟩) (by assumption) _
      rotate_left
      · (intro wS hSw; (try dsimp only at hSw); go_simp; try with_reducible rfl)
      try simp only [Act.put, nA, nB, nC]
      refine' wpAnyH_take (i := 5) (oi := ⟨some 29, .fieldAddr 106 (.tmp 28) 0, 0, "ref.go:245", #[⟨4, .data⟩], none⟩) rfl (by kernel_rfl) (by kernel_rfl) (by kernel_rfl) (fun _ _ _ h => h) (Or.inl ⟨by rfl, _⟩) (by assumption) _
      rotate_left
      · (intro wS hSw; (try dsimp only at hSw); go_simp; try with_reducible rfl)
      try simp only [Act.put, nA, nB, nC]
      refine' wpAnyH_take (i := 6) (oi := ⟨some 30, .load 23 (.tmp 29), 23, "ref.go:245", #[⟨5, .data⟩], none⟩) rfl (by kernel_rfl) (by kernel_rfl) (by kernel_rfl) (fun _ _ _ h => h) (yieldsIf_loadRng (by rfl) _ rfl g (k * 64) rfl xa Hxa.out (fun W hW => hW.1)) (by assumption) _
      (try simp only [Act.put, nA, nB, nC])
      refine' wpAnyH_take (i := 7) (oi := ⟨some 31, .move (.tmp 7), 51, "ref.go:245", #[], none⟩) rfl (by kernel_rfl) (by kernel_rfl) (by kernel_rfl) (fun _ _ _ h => h) (Or.inl ⟨by rfl, _⟩) (by assumption) _
      rotate_left
      · (intro wS hSw; (try dsimp only at hSw); go_simp; try with_reducible rfl)
      try simp only [Act.put, nA, nB, nC]
      refine' wpAnyH_take (i := 8) (oi := ⟨some 32, .move (.tmp 9), 3, "ref.go:245", #[], none⟩) rfl (by kernel_rfl) (by kernel_rfl) (by kernel_rfl) (fun _ _ _ h => h) (Or.inl ⟨by rfl, _⟩) (by assumption) _
      rotate_left
      · (intro wS hSw; (try dsimp only at hSw); go_simp; try with_reducible rfl)
      try simp only [Act.put, nA, nB, nC]
      refine' wpAnyH_take (i := 9) (oi := ⟨some 33, .indexAddr 51 (.tmp 31) (.tmp 32), 0, "ref.go:245", #[⟨7, .data⟩, ⟨8, .data⟩], none⟩) rfl (by kernel_rfl) (by kernel_rfl) (by kernel_rfl) (fun _ _ _ h => h) (Or.inl ⟨by rfl, _⟩) (by assumption) _
      rotate_left
      · (intro wS hSw; (try dsimp only at hSw); go_simp; try with_reducible rfl)
      try simp only [Act.put, nA, nB, nC]
      refine' wpAnyH_take (i := 10) (oi := ⟨some 34, .fieldAddr 106 (.tmp 33) 1, 0, "ref.go:245", #[⟨9, .data⟩], none⟩) rfl (by kernel_rfl) (by kernel_rfl) (by kernel_rfl) (fun _ _ _ h => h) (Or.inl ⟨by rfl, _⟩) (by assumption) _
      rotate_left
      · (intro wS hSw; (try dsimp only at hSw); go_simp; try with_reducible rfl)
      try simp only [Act.put, nA, nB, nC]
      refine' wpAnyH_take (i := 11) (oi := ⟨some 35, .load 23 (.tmp 34), 23, "ref.go:245", #[⟨10, .data⟩], none⟩) rfl (by kernel_rfl) (by kernel_rfl) (by kernel_rfl) (fun _ _ _ h => h) (yieldsIf_loadRng (by rfl) _ rfl g (k * 64 + 32) rfl xb Hxb.out (fun W hW => hW.2)) (by assumption) _
      (try simp only [Act.put, nA, nB, nC])
      refine wpAnyH_ready (rs := [12]) (by kernel_rfl) (by simp) ?_
      refine AllReadyH.cons (o := ⟨some 36, .call ⟨.value (.func 60), #[.tmp 25, .tmp 30, .tmp 35], #[3, 23, 23]⟩, 23, "ref.go:245", #[⟨1, .data⟩, ⟨6, .data⟩, ⟨11, .data⟩], none⟩) rfl (fun K hK => ?_) AllReadyH.nil
      (go_simp; (go_at_call 60; refine (refKnot_any m xa xb _ h1m hm Hxa Hxb).mono ?_; rintro e w3 ⟨rfl, hb'⟩; rw [HD.out]; have hb3 : Below wr.heap.size wr w3 := Below.trans (Below.refl _ _).drew hb'; have O3 := Lib.hid (O.out.below hb3 (fun g hg => (O.out.lt g hg).2)); have H3 := Lib.hid (HK.out w3 k xa xb HX.out Hxa.out Hxb.out O3.out)))
      refine hK.out _ _ ?_ (fun hHeld => ?_)
      · exact H3.out
      clear hK K
      try simp only [Act.put, nA, nB, nC]
      have S3 := Lib.hid (HS.out.below hb3 (fun g hg => (HS.out.lt g hg).2))
      have B3 := Lib.hid (B.out.trans (hb3.mono hNr))
      have hz3 := hb3.size
      clear hb' hb3 O HS B H1 hHeld H3
      refine wpAnyH_ready (rs := [13]) (by kernel_rfl) (by simp) ?_
      refine (AllReadyH.cons (o := ⟨some 37, .buildSlice 32 1 #[(0, .tmp 36)], 32, "ref.go:245", #[⟨12, .data⟩], none⟩) rfl (fun K hK => ?_) AllReadyH.nil)
      obtain ⟨q, hq⟩ : ∃ q, w3.heap.size = q := ⟨_, rfl⟩
      set_option maxRecDepth 20000 in
      refine step_of rfl (wp_slice1 _ rfl D hDl.out rfl q hq ?_)
      intro w4 e4 b4 z4
      have hb4 : Below w3.heap.size w3 w4 := (by rw [hq]; exact b4)
      have O4 := Lib.hid (O3.out.below hb4 (fun g hg => (O3.out.lt g hg).2))
      have S4 := Lib.hid (S3.out.below hb4 (fun g hg => (S3.out.lt g hg).2))
      have B4 := Lib.hid (B3.out.trans (hb4.mono (by omega)))
      have Lit := Lib.hid e4
      have hg4 : g < w4.heap.size := (O4.out.lt g rfl).2
      clear e4 b4 hb4 O3 S3 B3
      refine hK.out _ _ ?_ (fun hHeld => ?_)
      · exact HK.out w4 k xa xb HX.out Hxa.out Hxb.out O4.out
      clear hK K
      (try simp only [Act.put, nA, nB, nC])
      refine wpAnyH_ready (rs := [14]) (by kernel_rfl) (by simp) ?_
      refine (AllReadyH.cons (o := ⟨some 38, .call ⟨.builtin .append, #[.tmp 24, .tmp 37], #[32, 32]⟩, 32, "ref.go:245", #[⟨0, .data⟩, ⟨13, .data⟩, ⟨12, .chain⟩], none⟩) rfl (fun K hK => ?_) AllReadyH.nil)
      set_option maxRecDepth 20000 in
      refine step_of rfl (wp_appR w4 D hDl.out _ _ rfl N _ Z rfl S4.out HRa.out q 1 rfl Lit.out (by rw [HRl.out]; omega) (by omega) ?_)
      intro g2 cap2 w5 ho5 hg5 hs5
      have m5 := Mod.grown (S := fun k => u8.ownBlock = some k) hg5 (fun k e => e)
      have O5 := Lib.hid (O4.out.mod m5 (fun k hk e => by have e2 : g = k := Option.some.inj hk; exact HG.out k e e2.symm))
      have B5 := Lib.hid (B4.out.trans (m5.below (n := N) (fun k hk e => by have := (S4.out.lt k e).1; omega) (by omega)))
      have S5 : Hid (OwnR w5 N (.slice (some ⟨g2, 0, none⟩) (Z.length + 1) cap2) ((C.take (k + 1)).map (knS m))) := by show OwnR _ _ _ _; rw [HNx.out]; exact ho5
      have G5 : Hid (∀ h, (Value.slice (some ⟨g2, 0, none⟩) (Z.length + 1) cap2).ownBlock = some h → h ≠ g) := fun h hh => by
        have e : g2 = h := Option.some.inj hh
        subst e
        rcases hs5 with h1 | h1
        · exact HG.out g2 h1
        · omega
      clear ho5 hg5 hs5 m5 S4 B4
      refine hK.out _ _ ?_ (fun hHeld => ?_)
      · exact HK.out w5 k xa xb HX.out Hxa.out Hxb.out O5.out
      clear hK K
      (try simp only [Act.put, nA, nB, nC])
      refine' wpAnyH_take (i := 15) (oi := ⟨some 8, .assign (.tmp 38), 32, "ref.go:245", #[⟨14, .data⟩, ⟨14, .chain⟩, ⟨0, .phase⟩, ⟨1, .phase⟩, ⟨2, .phase⟩, ⟨3, .phase⟩, ⟨4, .phase⟩, ⟨5, .phase⟩, ⟨6, .phase⟩, ⟨7, .phase⟩, ⟨8, .phase⟩, ⟨9, .phase⟩, ⟨10, .phase⟩, ⟨11, .phase⟩, ⟨12, .phase⟩, ⟨13, .phase⟩, ⟨14, .phase⟩], none⟩) rfl (by kernel_rfl) (by kernel_rfl) (by kernel_rfl) (fun _ _ _ h => h) (Or.inl ⟨by rfl, _⟩) (by assumption) _
      rotate_left
      · (intro wS hSw; (try dsimp only at hSw); go_simp; try with_reducible rfl)
      try simp only [Act.put, nA, nB, nC]
      refine wpAnyH_done (by kernel_rfl) ?_ _
      clear hHeld O4
      go_wp2_with fail
      exact ⟨⟨k + 1, by omega, S5, O5, B5, G5, by go_num⟩, by simp [intOf]; omega⟩
    case neg =>
      have dk : decide (k < T) = false := decide_eq_false hlt
      have dk2 : decide ((k : Int) < (T : Int)) = false := decide_eq_false (by omega)
      have hfull : (C.take k).map (knS m) = C.map (knS m) := by rw [List.take_of_length_le (by rw [HT.out]; omega)]
      rw [hfull] at HS
      have hra : All32 (C.map (knS m)) := fun d hd => by
        obtain ⟨s, _, rfl⟩ := List.mem_map.1 hd
        exact knotD_length _ _ _
      have hfl : (C.map (knS m)).length = T := by rw [List.length_map, HT.out]
      obtain ⟨g2, cap2, rfl⟩ : ∃ g2 cap2, u8 = .slice (some ⟨g2, 0, none⟩) T cap2 := by
        rcases HS.out.2 with ⟨_, h0⟩ | ⟨g2, cap2, cur, e, _⟩
        · omega
        · exact ⟨g2, cap2, by rw [e, hfl]⟩
      have HSr : Hid (∀ (w : World) (j : Nat) (D : Dg), (C.map (knS m))[j]? = some D → OwnR w N (.slice (some ⟨g2, 0, none⟩) T cap2) (C.map (knS m)) → w.rangeAt g2 (j * 32) (D.map bv)) := fun w j D hj ho => by
        obtain ⟨hl, he⟩ := List.getElem?_eq_some_iff.1 hj
        have hr := ho.range hra j hl
        rw [he] at hr
        exact hr
      have HKf : Hid (∀ (w : World) (j : Nat) (X : Dg), C[j]? = some X → OwnQ w N (.slice (some ⟨g, 0, none⟩) T cap) C → w.rangeAt g (j * 64) (X.map bv)) := fun w j X hj ho => by
        obtain ⟨hl, he⟩ := List.getElem?_eq_some_iff.1 hj
        have hr := row64_range ho HAll.out j hl
        rw [he] at hr
        exact hr
      clear hfull hra hfl HG HK
      have F0 : Hid (OwnR wr N (.slice (some ⟨g2, 0, none⟩) T cap2) (C.map (knS m)) ∧ OwnQ wr N (.slice (some ⟨g, 0, none⟩) T cap) C ∧ Below N w wr) := ⟨HS.out, O.out, B.out⟩
      clear HS O B
      go_upto_region 10 with fail
      clear dk dk2 hlt
      obtain ⟨w3, rfl⟩ : ∃ w3 : World, w3 = wr := ⟨_, rfl⟩
      go_loopw [10] (fun i wr => ∃ (i' : Nat), i' ≤ i0 ∧ Hid (OwnR wr N (.slice (some ⟨g2, 0, none⟩) T cap2) (C.map (knS m)) ∧ OwnQ wr N (.slice (some ⟨g, 0, none⟩) T cap) C ∧ Below N w wr) ∧ i = .int .i64 (i' : Int)) (fun i _ => T - (intOf i).toNat)
      case atStart => exact ⟨0, Nat.zero_le _, F0, rfl⟩
      case round =>
        obtain ⟨i, hii, F, rfl⟩ := hrel
        clear F0
        have di : decide (i < T) = true := decide_eq_true (by omega)
        have di2 : decide ((i : Int) < (T : Int)) = true := decide_eq_true (by omega)
        go_upto_region 13 with fail
        obtain ⟨w4, rfl⟩ : ∃ w4 : World, w4 = wr := ⟨_, rfl⟩
        go_loopw [11] (fun kv wr => ∃ (j : Nat), j ≤ i ∧ Hid (i = i0 → j ≤ k0) ∧ Hid (OwnR wr N (.slice (some ⟨g2, 0, none⟩) T cap2) (C.map (knS m)) ∧ OwnQ wr N (.slice (some ⟨g, 0, none⟩) T cap) C ∧ Below N w wr) ∧ kv = .int .i64 (j : Int)) (fun kv _ => i - (intOf kv).toNat)
        case atStart => exact ⟨0, Nat.zero_le _, fun _ => Nat.zero_le _, F, rfl⟩
        case round =>
          obtain ⟨j, hji, Hk, F2, rfl⟩ := hrel
          clear F
          by_cases hjl : j < i
          case neg =>
            have dj : decide (j < i) = false := decide_eq_false hjl
            have dj2 : decide ((j : Int) < (i : Int)) = false := decide_eq_false (by omega)
            have hi1 : i + 1 ≤ i0 := by
              rcases Nat.lt_or_ge i i0 with h | h
              · exact h
              · have h1 := Hk.out (by omega)
                omega
            clear Hk
            go_wp2_with fail
            exact ⟨⟨i + 1, hi1, F2, by go_num⟩, by simp [intOf]; omega⟩
          case pos =>
            have dj : decide (j < i) = true := decide_eq_true hjl
            have dj2 : decide ((j : Int) < (i : Int)) = true := decide_eq_true (by omega)
            have iT : (i : Int) < (T : Int) := by omega
            have jT : (j : Int) < (T : Int) := by omega
            obtain ⟨Xi, hXi⟩ : ∃ X, C[i]? = some X := ⟨_, List.getElem?_eq_getElem (by rw [HT.out]; omega)⟩
            obtain ⟨Xj, hXj⟩ : ∃ X, C[j]? = some X := ⟨_, List.getElem?_eq_getElem (by rw [HT.out]; omega)⟩
            have hXil : Xi.length = 64 := HAll.out Xi (List.mem_of_getElem? hXi)
            have hXjl : Xj.length = 64 := HAll.out Xj (List.mem_of_getElem? hXj)
            have hDi : (C.map (knS m))[i]? = some (knS m Xi) := by rw [List.getElem?_map, hXi]; rfl
            have hDj : (C.map (knS m))[j]? = some (knS m Xj) := by rw [List.getElem?_map, hXj]; rfl
            have HR := Lib.hid (And.intro (And.intro (HSr.out wr i _ hDi F2.out.1) (HSr.out wr j _ hDj F2.out.1)) (And.intro (HKf.out wr i Xi hXi F2.out.2.1) (HKf.out wr j Xj hXj F2.out.2.1)))
            obtain ⟨Q1, hQ1⟩ : ∃ Q, (knS m Xi == knS m Xj) = Q := ⟨_, rfl⟩
            obtain ⟨Q2, hQ2⟩ : ∃ Q, (Xi == Xj) = Q := ⟨_, rfl⟩
            have HN1 : Hid (i = i0 → j = k0 → (Q1 = true ∧ Q2 = false)) := fun e1 e2 => by
              subst e1
              subst e2
              have e3 := hX0.out
              have e4 := hY0.out
              rw [hXi] at e3
              rw [hXj] at e4
              have e5 := Option.some.inj e3
              have e6 := Option.some.inj e4
              rw [← hQ1, ← hQ2, e5, e6, hkn.out]
              exact ⟨beq_self_eq_true _, beq_eq_false_iff_ne.2 hne.out⟩
            have hDil : (knS m Xi).length = 32 := knotD_length _ _ _
            have hDjl : (knS m Xj).length = 32 := knotD_length _ _ _
            obtain ⟨Di, hDi2⟩ : ∃ D, knS m Xi = D := ⟨_, rfl⟩
            obtain ⟨Dj, hDj2⟩ : ∃ D, knS m Xj = D := ⟨_, rfl⟩
            rw [hDi2, hDj2] at HR hQ1
            rw [hDi2] at hDil
            rw [hDj2] at hDjl
            have hq0 := eqD Di Dj hDil hDjl
            rw [hQ1] at hq0
            have hqg := eqGuardD Di Dj
            have hq1 := neQ64 Xi Xj hXil hXjl
            rw [hQ2] at hq1
            have hqh := neGuardQ Xi Xj
            have HDi := Lib.hid hDil
            have HDj := Lib.hid hDjl
            have HXi := Lib.hid hXil
            have HXj := Lib.hid hXjl
            clear hXi hXj hXil hXjl hDi hDj hQ1 hQ2 hDil hDjl hDi2 hDj2
            cases Q1
            case false =>
              have HN1 : Hid (i = i0 → j ≠ k0) := fun e1 e2 => by cases (HN1.out e1 e2).1
              go_upto_region 15 with fail
              refine wp_region_held_drew (S := fun W => (W.rangeAt g2 (i * 32) (Di.map bv) ∧ W.rangeAt g2 (j * 32) (Dj.map bv)) ∧ (W.rangeAt g (i * 64) (Xi.map bv) ∧ W.rangeAt g (j * 64) (Xj.map bv))) (by kernel_rfl) HR.out (fun hHeld => ?_)
              refine' wpAnyH_take (i := 0) (oi := ⟨some 50, .move (.tmp 8), 32, "ref.go:249", #[], none⟩) rfl (by kernel_rfl) (by kernel_rfl) (by kernel_rfl) (fun _ _ _ h => h) (Or.inl ⟨by rfl, _⟩) (by assumption) _
              rotate_left
              · (intro wS hSw; (try dsimp only at hSw); go_simp; try with_reducible rfl)
              try simp only [Act.put, nA, nB, nC]
              refine' wpAnyH_take (i := 1) (oi := ⟨some 51, .move (.tmp 10), 3, "ref.go:249", #[], none⟩) rfl (by kernel_rfl) (by kernel_rfl) (by kernel_rfl) (fun _ _ _ h => h) (Or.inl ⟨by rfl, _⟩) (by assumption) _
              rotate_left
              · (intro wS hSw; (try dsimp only at hSw); go_simp; try with_reducible rfl)
              try simp only [Act.put, nA, nB, nC]
              refine' wpAnyH_take (i := 2) (oi := ⟨some 52, .indexAddr 32 (.tmp 50) (.tmp 51), 0, "ref.go:249", #[⟨0, .data⟩, ⟨1, .data⟩], none⟩) rfl (by kernel_rfl) (by kernel_rfl) (by kernel_rfl) (fun _ _ _ h => h) (Or.inl ⟨by rfl, _⟩) (by assumption) _
              rotate_left
              · (intro wS hSw; (try dsimp only at hSw); go_simp; try with_reducible rfl)
              try simp only [Act.put, nA, nB, nC]
              refine' wpAnyH_take (i := 3) (oi := ⟨some 53, .load 23 (.tmp 52), 23, "ref.go:249", #[⟨2, .data⟩], none⟩) rfl (by kernel_rfl) (by kernel_rfl) (by kernel_rfl) (fun _ _ _ h => h) (yieldsIf_loadRng (by rfl) _ rfl g2 (i * 32) rfl Di HDi.out (fun W hW => hW.1.1)) (by assumption) _
              (try simp only [Act.put, nA, nB, nC])
              refine' wpAnyH_take (i := 4) (oi := ⟨some 54, .move (.tmp 8), 32, "ref.go:249", #[], none⟩) rfl (by kernel_rfl) (by kernel_rfl) (by kernel_rfl) (fun _ _ _ h => h) (Or.inl ⟨by rfl, _⟩) (by assumption) _
              rotate_left
              · (intro wS hSw; (try dsimp only at hSw); go_simp; try with_reducible rfl)
              try simp only [Act.put, nA, nB, nC]
              refine' wpAnyH_take (i := 5) (oi := ⟨some 55, .move (.tmp 11), 3, "ref.go:249", #[], none⟩) rfl (by kernel_rfl) (by kernel_rfl) (by kernel_rfl) (fun _ _ _ h => h) (Or.inl ⟨by rfl, _⟩) (by assumption) _
              rotate_left
              · (intro wS hSw; (try dsimp only at hSw); go_simp; try with_reducible rfl)
              try simp only [Act.put, nA, nB, nC]
              refine' wpAnyH_take (i := 6) (oi := ⟨some 56, .indexAddr 32 (.tmp 54) (.tmp 55), 0, "ref.go:249", #[⟨4, .data⟩, ⟨5, .data⟩], none⟩) rfl (by kernel_rfl) (by kernel_rfl) (by kernel_rfl) (fun _ _ _ h => h) (Or.inl ⟨by rfl, _⟩) (by assumption) _
              rotate_left
              · (intro wS hSw; (try dsimp only at hSw); go_simp; try with_reducible rfl)
              try simp only [Act.put, nA, nB, nC]
              refine' wpAnyH_take (i := 7) (oi := ⟨some 57, .load 23 (.tmp 56), 23, "ref.go:249", #[⟨6, .data⟩], none⟩) rfl (by kernel_rfl) (by kernel_rfl) (by kernel_rfl) (fun _ _ _ h => h) (yieldsIf_loadRng (by rfl) _ rfl g2 (j * 32) rfl Dj HDj.out (fun W hW => hW.1.2)) (by assumption) _
              (try simp only [Act.put, nA, nB, nC])
              refine' wpAnyH_take (i := 8) (oi := ⟨some 58, .binOp .eql 23 (.tmp 53) (.tmp 57) 23, 4, "ref.go:249", #[⟨3, .data⟩, ⟨7, .data⟩], none⟩) rfl (by kernel_rfl) (by kernel_rfl) (by kernel_rfl) (fun _ _ _ h => h) (Or.inl ⟨by rfl, _⟩) (by assumption) _
              rotate_left
              · (intro wS hSw; (try dsimp only at hSw); go_simp; try with_reducible rfl)
              try simp only [Act.put, nA, nB, nC]
              refine' wpAnyH_take (i := 9) (oi := ⟨some 59, .move (.tmp 58), 4, "ref.go:249", #[⟨8, .data⟩], none⟩) rfl (by kernel_rfl) (by kernel_rfl) (by kernel_rfl) (fun _ _ _ h => h) (Or.inl ⟨by rfl, _⟩) (by assumption) _
              rotate_left
              · (intro wS hSw; (try dsimp only at hSw); go_simp; try with_reducible rfl)
              try simp only [Act.put, nA, nB, nC]
              refine' wpAnyH_take (i := 10) (oi := ⟨some 60, .move (.tmp 7), 51, "ref.go:249", #[⟨9, .guard⟩], some (9, true)⟩) rfl (by kernel_rfl) (by kernel_rfl) (by kernel_rfl) (fun _ _ _ h => h) (Or.inr ⟨by rfl, rfl⟩) (by assumption) _
              try simp only [Act.put, nA, nB, nC]
              refine' wpAnyH_take (i := 11) (oi := ⟨some 61, .move (.tmp 10), 3, "ref.go:249", #[⟨9, .guard⟩], some (9, true)⟩) rfl (by kernel_rfl) (by kernel_rfl) (by kernel_rfl) (fun _ _ _ h => h) (Or.inr ⟨by rfl, rfl⟩) (by assumption) _
              try simp only [Act.put, nA, nB, nC]
              refine' wpAnyH_take (i := 12) (oi := ⟨some 62, .indexAddr 51 (.tmp 60) (.tmp 61), 0, "ref.go:249", #[⟨10, .data⟩, ⟨11, .data⟩, ⟨9, .guard⟩], some (9, true)⟩) rfl (by kernel_rfl) (by kernel_rfl) (by kernel_rfl) (fun _ _ _ h => h) (Or.inr ⟨by rfl, rfl⟩) (by assumption) _
              try simp only [Act.put, nA, nB, nC]
              refine' wpAnyH_take (i := 13) (oi := ⟨some 63, .load 106 (.tmp 62), 106, "ref.go:249", #[⟨12, .data⟩, ⟨9, .guard⟩], some (9, true)⟩) rfl (by kernel_rfl) (by kernel_rfl) (by kernel_rfl) (fun _ _ _ h => h) (Or.inr ⟨by rfl, rfl⟩) (by assumption) _
              try simp only [Act.put, nA, nB, nC]
              refine' wpAnyH_take (i := 14) (oi := ⟨some 64, .move (.tmp 7), 51, "ref.go:249", #[⟨9, .guard⟩], some (9, true)⟩) rfl (by kernel_rfl) (by kernel_rfl) (by kernel_rfl) (fun _ _ _ h => h) (Or.inr ⟨by rfl, rfl⟩) (by assumption) _
              try simp only [Act.put, nA, nB, nC]
              refine' wpAnyH_take (i := 15) (oi := ⟨some 65, .move (.tmp 11), 3, "ref.go:249", #[⟨9, .guard⟩], some (9, true)⟩) rfl (by kernel_rfl) (by kernel_rfl) (by kernel_rfl) (fun _ _ _ h => h) (Or.inr ⟨by rfl, rfl⟩) (by assumption) _
              try simp only [Act.put, nA, nB, nC]
              refine' wpAnyH_take (i := 16) (oi := ⟨some 66, .indexAddr 51 (.tmp 64) (.tmp 65), 0, "ref.go:249", #[⟨14, .data⟩, ⟨15, .data⟩, ⟨9, .guard⟩], some (9, true)⟩) rfl (by kernel_rfl) (by kernel_rfl) (by kernel_rfl) (fun _ _ _ h => h) (Or.inr ⟨by rfl, rfl⟩) (by assumption) _
              try simp only [Act.put, nA, nB, nC]
              refine' wpAnyH_take (i := 17) (oi := ⟨some 67, .load 106 (.tmp 66), 106, "ref.go:249", #[⟨16, .data⟩, ⟨9, .guard⟩], some (9, true)⟩) rfl (by kernel_rfl) (by kernel_rfl) (by kernel_rfl) (fun _ _ _ h => h) (Or.inr ⟨by rfl, rfl⟩) (by assumption) _
              try simp only [Act.put, nA, nB, nC]
              refine' wpAnyH_take (i := 18) (oi := ⟨some 68, .binOp .neq 106 (.tmp 63) (.tmp 67) 106, 4, "ref.go:249", #[⟨13, .data⟩, ⟨17, .data⟩, ⟨9, .guard⟩], some (9, true)⟩) rfl (by kernel_rfl) (by kernel_rfl) (by kernel_rfl) (fun _ _ _ h => h) (Or.inr ⟨by rfl, rfl⟩) (by assumption) _
              try simp only [Act.put, nA, nB, nC]
              refine' wpAnyH_take (i := 19) (oi := ⟨some 69, .pick (.tmp 59) (.tmp 68) (.const (.bool false)), 4, "ref.go:249", #[⟨9, .data⟩, ⟨18, .data⟩], none⟩) rfl (by kernel_rfl) (by kernel_rfl) (by kernel_rfl) (fun _ _ _ h => h) (Or.inl ⟨by rfl, _⟩) (by assumption) _
              rotate_left
              · (intro wS hSw; (try dsimp only at hSw); go_simp; try with_reducible rfl)
              try simp only [Act.put, nA, nB, nC]
              refine wpAnyH_done (by kernel_rfl) ?_ _
              clear hq0 hqg hq1 hqh hHeld HR
              have F3 : Hid (OwnR wr.drew N (.slice (some ⟨g2, 0, none⟩) T cap2) (C.map (knS m)) ∧ OwnQ wr.drew N (.slice (some ⟨g, 0, none⟩) T cap) C ∧ Below N w wr.drew) := ⟨F2.out.1, F2.out.2.1, F2.out.2.2.drew⟩
              clear F2
              have H3 : Hid (i = i0 → j + 1 ≤ k0) := fun e => by
                have h1 := Hk.out e
                have h2 := HN1.out e
                omega
              clear Hk HN1
              go_wp2_with fail
              exact ⟨⟨j + 1, by omega, H3, F3, by go_num⟩, by simp [intOf]; omega⟩
            case true =>
              cases Q2
              case true =>
                have HN1 : Hid (i = i0 → j ≠ k0) := fun e1 e2 => by cases (HN1.out e1 e2).2
                go_upto_region 15 with fail
                refine wp_region_held_drew (S := fun W => (W.rangeAt g2 (i * 32) (Di.map bv) ∧ W.rangeAt g2 (j * 32) (Dj.map bv)) ∧ (W.rangeAt g (i * 64) (Xi.map bv) ∧ W.rangeAt g (j * 64) (Xj.map bv))) (by kernel_rfl) HR.out (fun hHeld => ?_)
                refine' wpAnyH_take (i := 0) (oi := ⟨some 50, .move (.tmp 8), 32, "ref.go:249", #[], none⟩) rfl (by kernel_rfl) (by kernel_rfl) (by kernel_rfl) (fun _ _ _ h => h) (Or.inl ⟨by rfl, _⟩) (by assumption) _
                rotate_left
                · (intro wS hSw; (try dsimp only at hSw); go_simp; try with_reducible rfl)
                try simp only [Act.put, nA, nB, nC]
                refine' wpAnyH_take (i := 1) (oi := ⟨some 51, .move (.tmp 10), 3, "ref.go:249", #[], none⟩) rfl (by kernel_rfl) (by kernel_rfl) (by kernel_rfl) (fun _ _ _ h => h) (Or.inl ⟨by rfl, _⟩) (by assumption) _
                rotate_left
                · (intro wS hSw; (try dsimp only at hSw); go_simp; try with_reducible rfl)
                try simp only [Act.put, nA, nB, nC]
                refine' wpAnyH_take (i := 2) (oi := ⟨some 52, .indexAddr 32 (.tmp 50) (.tmp 51), 0, "ref.go:249", #[⟨0, .data⟩, ⟨1, .data⟩], none⟩) rfl (by kernel_rfl) (by kernel_rfl) (by kernel_rfl) (fun _ _ _ h => h) (Or.inl ⟨by rfl, _⟩) (by assumption) _
                rotate_left
                · (intro wS hSw; (try dsimp only at hSw); go_simp; try with_reducible rfl)
                try simp only [Act.put, nA, nB, nC]
                refine' wpAnyH_take (i := 3) (oi := ⟨some 53, .load 23 (.tmp 52), 23, "ref.go:249", #[⟨2, .data⟩], none⟩) rfl (by kernel_rfl) (by kernel_rfl) (by kernel_rfl) (fun _ _ _ h => h) (yieldsIf_loadRng (by rfl) _ rfl g2 (i * 32) rfl Di HDi.out (fun W hW => hW.1.1)) (by assumption) _
                (try simp only [Act.put, nA, nB, nC])
                refine' wpAnyH_take (i := 4) (oi := ⟨some 54, .move (.tmp 8), 32, "ref.go:249", #[], none⟩) rfl (by kernel_rfl) (by kernel_rfl) (by kernel_rfl) (fun _ _ _ h => h) (Or.inl ⟨by rfl, _⟩) (by assumption) _
                rotate_left
                · (intro wS hSw; (try dsimp only at hSw); go_simp; try with_reducible rfl)
                try simp only [Act.put, nA, nB, nC]
                refine' wpAnyH_take (i := 5) (oi := ⟨some 55, .move (.tmp 11), 3, "ref.go:249", #[], none⟩) rfl (by kernel_rfl) (by kernel_rfl) (by kernel_rfl) (fun _ _ _ h => h) (Or.inl ⟨by rfl, _⟩) (by assumption) _
                rotate_left
                · (intro wS hSw; (try dsimp only at hSw); go_simp; try with_reducible rfl)
                try simp only [Act.put, nA, nB, nC]
                refine' wpAnyH_take (i := 6) (oi := ⟨some 56, .indexAddr 32 (.tmp 54) (.tmp 55), 0, "ref.go:249", #[⟨4, .data⟩, ⟨5, .data⟩], none⟩) rfl (by kernel_rfl) (by kernel_rfl) (by kernel_rfl) (fun _ _ _ h => h) (Or.inl ⟨by rfl, _⟩) (by assumption) _
                rotate_left
                · (intro wS hSw; (try dsimp only at hSw); go_simp; try with_reducible rfl)
                try simp only [Act.put, nA, nB, nC]
                refine' wpAnyH_take (i := 7) (oi := ⟨some 57, .load 23 (.tmp 56), 23, "ref.go:249", #[⟨6, .data⟩], none⟩) rfl (by kernel_rfl) (by kernel_rfl) (by kernel_rfl) (fun _ _ _ h => h) (yieldsIf_loadRng (by rfl) _ rfl g2 (j * 32) rfl Dj HDj.out (fun W hW => hW.1.2)) (by assumption) _
                (try simp only [Act.put, nA, nB, nC])
                refine' wpAnyH_take (i := 8) (oi := ⟨some 58, .binOp .eql 23 (.tmp 53) (.tmp 57) 23, 4, "ref.go:249", #[⟨3, .data⟩, ⟨7, .data⟩], none⟩) rfl (by kernel_rfl) (by kernel_rfl) (by kernel_rfl) (fun _ _ _ h => h) (Or.inl ⟨by rfl, _⟩) (by assumption) _
                rotate_left
                · (intro wS hSw; (try dsimp only at hSw); go_simp; try with_reducible rfl)
                try simp only [Act.put, nA, nB, nC]
                refine' wpAnyH_take (i := 9) (oi := ⟨some 59, .move (.tmp 58), 4, "ref.go:249", #[⟨8, .data⟩], none⟩) rfl (by kernel_rfl) (by kernel_rfl) (by kernel_rfl) (fun _ _ _ h => h) (Or.inl ⟨by rfl, _⟩) (by assumption) _
                rotate_left
                · (intro wS hSw; (try dsimp only at hSw); go_simp; try with_reducible rfl)
                try simp only [Act.put, nA, nB, nC]
                refine' wpAnyH_take (i := 10) (oi := ⟨some 60, .move (.tmp 7), 51, "ref.go:249", #[⟨9, .guard⟩], some (9, true)⟩) rfl (by kernel_rfl) (by kernel_rfl) (by kernel_rfl) (fun _ _ _ h => h) (Or.inl ⟨by rfl, _⟩) (by assumption) _
                rotate_left
                · (intro wS hSw; (try dsimp only at hSw); go_simp; try with_reducible rfl)
                try simp only [Act.put, nA, nB, nC]
                refine' wpAnyH_take (i := 11) (oi := ⟨some 61, .move (.tmp 10), 3, "ref.go:249", #[⟨9, .guard⟩], some (9, true)⟩) rfl (by kernel_rfl) (by kernel_rfl) (by kernel_rfl) (fun _ _ _ h => h) (Or.inl ⟨by rfl, _⟩) (by assumption) _
                rotate_left
                · (intro wS hSw; (try dsimp only at hSw); go_simp; try with_reducible rfl)
                try simp only [Act.put, nA, nB, nC]
                refine' wpAnyH_take (i := 12) (oi := ⟨some 62, .indexAddr 51 (.tmp 60) (.tmp 61), 0, "ref.go:249", #[⟨10, .data⟩, ⟨11, .data⟩, ⟨9, .guard⟩], some (9, true)⟩) rfl (by kernel_rfl) (by kernel_rfl) (by kernel_rfl) (fun _ _ _ h => h) (Or.inl ⟨by rfl, _⟩) (by assumption) _
                rotate_left
                · (intro wS hSw; (try dsimp only at hSw); go_simp; try with_reducible rfl)
                try simp only [Act.put, nA, nB, nC]
                refine' wpAnyH_take (i := 13) (oi := ⟨some 63, .load 106 (.tmp 62), 106, "ref.go:249", #[⟨12, .data⟩, ⟨9, .guard⟩], some (9, true)⟩) rfl (by kernel_rfl) (by kernel_rfl) (by kernel_rfl) (fun _ _ _ h => h) (yieldsIf_loadQ (by rfl) _ rfl g (i * 64) rfl Xi HXi.out (fun W hW => hW.2.1)) (by assumption) _
                (try simp only [Act.put, nA, nB, nC])
                refine' wpAnyH_take (i := 14) (oi := ⟨some 64, .move (.tmp 7), 51, "ref.go:249", #[⟨9, .guard⟩], some (9, true)⟩) rfl (by kernel_rfl) (by kernel_rfl) (by kernel_rfl) (fun _ _ _ h => h) (Or.inl ⟨by rfl, _⟩) (by assumption) _
                rotate_left
                · (intro wS hSw; (try dsimp only at hSw); go_simp; try with_reducible rfl)
                try simp only [Act.put, nA, nB, nC]
                refine' wpAnyH_take (i := 15) (oi := ⟨some 65, .move (.tmp 11), 3, "ref.go:249", #[⟨9, .guard⟩], some (9, true)⟩) rfl (by kernel_rfl) (by kernel_rfl) (by kernel_rfl) (fun _ _ _ h => h) (Or.inl ⟨by rfl, _⟩) (by assumption) _
                rotate_left
                · (intro wS hSw; (try dsimp only at hSw); go_simp; try with_reducible rfl)
                try simp only [Act.put, nA, nB, nC]
                refine' wpAnyH_take (i := 16) (oi := ⟨some 66, .indexAddr 51 (.tmp 64) (.tmp 65), 0, "ref.go:249", #[⟨14, .data⟩, ⟨15, .data⟩, ⟨9, .guard⟩], some (9, true)⟩) rfl (by kernel_rfl) (by kernel_rfl) (by kernel_rfl) (fun _ _ _ h => h) (Or.inl ⟨by rfl, _⟩) (by assumption) _
                rotate_left
                · (intro wS hSw; (try dsimp only at hSw); go_simp; try with_reducible rfl)
                try simp only [Act.put, nA, nB, nC]
                refine' wpAnyH_take (i := 17) (oi := ⟨some 67, .load 106 (.tmp 66), 106, "ref.go:249", #[⟨16, .data⟩, ⟨9, .guard⟩], some (9, true)⟩) rfl (by kernel_rfl) (by kernel_rfl) (by kernel_rfl) (fun _ _ _ h => h) (yieldsIf_loadQ (by rfl) _ rfl g (j * 64) rfl Xj HXj.out (fun W hW => hW.2.2)) (by assumption) _
                (try simp only [Act.put, nA, nB, nC])
                refine' wpAnyH_take (i := 18) (oi := ⟨some 68, .binOp .neq 106 (.tmp 63) (.tmp 67) 106, 4, "ref.go:249", #[⟨13, .data⟩, ⟨17, .data⟩, ⟨9, .guard⟩], some (9, true)⟩) rfl (by kernel_rfl) (by kernel_rfl) (by kernel_rfl) (fun _ _ _ h => h) (Or.inl ⟨by rfl, _⟩) (by assumption) _
                rotate_left
                · (intro wS hSw; (try dsimp only at hSw); go_simp; try with_reducible rfl)
                try simp only [Act.put, nA, nB, nC]
                refine' wpAnyH_take (i := 19) (oi := ⟨some 69, .pick (.tmp 59) (.tmp 68) (.const (.bool false)), 4, "ref.go:249", #[⟨9, .data⟩, ⟨18, .data⟩], none⟩) rfl (by kernel_rfl) (by kernel_rfl) (by kernel_rfl) (fun _ _ _ h => h) (Or.inl ⟨by rfl, _⟩) (by assumption) _
                rotate_left
                · (intro wS hSw; (try dsimp only at hSw); go_simp; try with_reducible rfl)
                try simp only [Act.put, nA, nB, nC]
                refine wpAnyH_done (by kernel_rfl) ?_ _
                clear hq0 hqg hq1 hqh hHeld HR
                have F3 : Hid (OwnR wr.drew N (.slice (some ⟨g2, 0, none⟩) T cap2) (C.map (knS m)) ∧ OwnQ wr.drew N (.slice (some ⟨g, 0, none⟩) T cap) C ∧ Below N w wr.drew) := ⟨F2.out.1, F2.out.2.1, F2.out.2.2.drew⟩
                clear F2
                have H3 : Hid (i = i0 → j + 1 ≤ k0) := fun e => by
                  have h1 := Hk.out e
                  have h2 := HN1.out e
                  omega
                clear Hk HN1
                go_wp2_with fail
                exact ⟨⟨j + 1, by omega, H3, F3, by go_num⟩, by simp [intOf]; omega⟩
              case false =>
                go_upto_region 15 with fail
                refine wp_region_held_drew (S := fun W => (W.rangeAt g2 (i * 32) (Di.map bv) ∧ W.rangeAt g2 (j * 32) (Dj.map bv)) ∧ (W.rangeAt g (i * 64) (Xi.map bv) ∧ W.rangeAt g (j * 64) (Xj.map bv))) (by kernel_rfl) HR.out (fun hHeld => ?_)
                refine' wpAnyH_take (i := 0) (oi := ⟨some 50, .move (.tmp 8), 32, "ref.go:249", #[], none⟩) rfl (by kernel_rfl) (by kernel_rfl) (by kernel_rfl) (fun _ _ _ h => h) (Or.inl ⟨by rfl, _⟩) (by assumption) _
                rotate_left
                · (intro wS hSw; (try dsimp only at hSw); go_simp; try with_reducible rfl)
                try simp only [Act.put, nA, nB, nC]
                refine' wpAnyH_take (i := 1) (oi := ⟨some 51, .move (.tmp 10), 3, "ref.go:249", #[], none⟩) rfl (by kernel_rfl) (by kernel_rfl) (by kernel_rfl) (fun _ _ _ h => h) (Or.inl ⟨by rfl, _⟩) (by assumption) _
                rotate_left
                · (intro wS hSw; (try dsimp only at hSw); go_simp; try with_reducible rfl)
                try simp only [Act.put, nA, nB, nC]
                refine' wpAnyH_take (i := 2) (oi := ⟨some 52, .indexAddr 32 (.tmp 50) (.tmp 51), 0, "ref.go:249", #[⟨0, .data⟩, ⟨1, .data⟩], none⟩) rfl (by kernel_rfl) (by kernel_rfl) (by kernel_rfl) (fun _ _ _ h => h) (Or.inl ⟨by rfl, _⟩) (by assumption) _
                rotate_left
                · (intro wS hSw; (try dsimp only at hSw); go_simp; try with_reducible rfl)
                try simp only [Act.put, nA, nB, nC]
                refine' wpAnyH_take (i := 3) (oi := ⟨some 53, .load 23 (.tmp 52), 23, "ref.go:249", #[⟨2, .data⟩], none⟩) rfl (by kernel_rfl) (by kernel_rfl) (by kernel_rfl) (fun _ _ _ h => h) (yieldsIf_loadRng (by rfl) _ rfl g2 (i * 32) rfl Di HDi.out (fun W hW => hW.1.1)) (by assumption) _
                (try simp only [Act.put, nA, nB, nC])
                refine' wpAnyH_take (i := 4) (oi := ⟨some 54, .move (.tmp 8), 32, "ref.go:249", #[], none⟩) rfl (by kernel_rfl) (by kernel_rfl) (by kernel_rfl) (fun _ _ _ h => h) (Or.inl ⟨by rfl, _⟩) (by assumption) _
                rotate_left
                · (intro wS hSw; (try dsimp only at hSw); go_simp; try with_reducible rfl)
                try simp only [Act.put, nA, nB, nC]
                refine' wpAnyH_take (i := 5) (oi := ⟨some 55, .move (.tmp 11), 3, "ref.go:249", #[], none⟩) rfl (by kernel_rfl) (by kernel_rfl) (by kernel_rfl) (fun _ _ _ h => h) (Or.inl ⟨by rfl, _⟩) (by assumption) _
                rotate_left
                · (intro wS hSw; (try dsimp only at hSw); go_simp; try with_reducible rfl)
                try simp only [Act.put, nA, nB, nC]
                refine' wpAnyH_take (i := 6) (oi := ⟨some 56, .indexAddr 32 (.tmp 54) (.tmp 55), 0, "ref.go:249", #[⟨4, .data⟩, ⟨5, .data⟩], none⟩) rfl (by kernel_rfl) (by kernel_rfl) (by kernel_rfl) (fun _ _ _ h => h) (Or.inl ⟨by rfl, _⟩) (by assumption) _
                rotate_left
                · (intro wS hSw; (try dsimp only at hSw); go_simp; try with_reducible rfl)
                try simp only [Act.put, nA, nB, nC]
                refine' wpAnyH_take (i := 7) (oi := ⟨some 57, .load 23 (.tmp 56), 23, "ref.go:249", #[⟨6, .data⟩], none⟩) rfl (by kernel_rfl) (by kernel_rfl) (by kernel_rfl) (fun _ _ _ h => h) (yieldsIf_loadRng (by rfl) _ rfl g2 (j * 32) rfl Dj HDj.out (fun W hW => hW.1.2)) (by assumption) _
                (try simp only [Act.put, nA, nB, nC])
                refine' wpAnyH_take (i := 8) (oi := ⟨some 58, .binOp .eql 23 (.tmp 53) (.tmp 57) 23, 4, "ref.go:249", #[⟨3, .data⟩, ⟨7, .data⟩], none⟩) rfl (by kernel_rfl) (by kernel_rfl) (by kernel_rfl) (fun _ _ _ h => h) (Or.inl ⟨by rfl, _⟩) (by assumption) _
                rotate_left
                · (intro wS hSw; (try dsimp only at hSw); go_simp; try with_reducible rfl)
                try simp only [Act.put, nA, nB, nC]
                refine' wpAnyH_take (i := 9) (oi := ⟨some 59, .move (.tmp 58), 4, "ref.go:249", #[⟨8, .data⟩], none⟩) rfl (by kernel_rfl) (by kernel_rfl) (by kernel_rfl) (fun _ _ _ h => h) (Or.inl ⟨by rfl, _⟩) (by assumption) _
                rotate_left
                · (intro wS hSw; (try dsimp only at hSw); go_simp; try with_reducible rfl)
                try simp only [Act.put, nA, nB, nC]
                refine' wpAnyH_take (i := 10) (oi := ⟨some 60, .move (.tmp 7), 51, "ref.go:249", #[⟨9, .guard⟩], some (9, true)⟩) rfl (by kernel_rfl) (by kernel_rfl) (by kernel_rfl) (fun _ _ _ h => h) (Or.inl ⟨by rfl, _⟩) (by assumption) _
                rotate_left
                · (intro wS hSw; (try dsimp only at hSw); go_simp; try with_reducible rfl)
                try simp only [Act.put, nA, nB, nC]
                refine' wpAnyH_take (i := 11) (oi := ⟨some 61, .move (.tmp 10), 3, "ref.go:249", #[⟨9, .guard⟩], some (9, true)⟩) rfl (by kernel_rfl) (by kernel_rfl) (by kernel_rfl) (fun _ _ _ h => h) (Or.inl ⟨by rfl, _⟩) (by assumption) _
                rotate_left
                · (intro wS hSw; (try dsimp only at hSw); go_simp; try with_reducible rfl)
                try simp only [Act.put, nA, nB, nC]
                refine' wpAnyH_take (i := 12) (oi := ⟨some 62, .indexAddr 51 (.tmp 60) (.tmp 61), 0, "ref.go:249", #[⟨10, .data⟩, ⟨11, .data⟩, ⟨9, .guard⟩], some (9, true)⟩) rfl (by kernel_rfl) (by kernel_rfl) (by kernel_rfl) (fun _ _ _ h => h) (Or.inl ⟨by rfl, _⟩) (by assumption) _
                rotate_left
                · (intro wS hSw; (try dsimp only at hSw); go_simp; try with_reducible rfl)
                try simp only [Act.put, nA, nB, nC]
                refine' wpAnyH_take (i := 13) (oi := ⟨some 63, .load 106 (.tmp 62), 106, "ref.go:249", #[⟨12, .data⟩, ⟨9, .guard⟩], some (9, true)⟩) rfl (by kernel_rfl) (by kernel_rfl) (by kernel_rfl) (fun _ _ _ h => h) (yieldsIf_loadQ (by rfl) _ rfl g (i * 64) rfl Xi HXi.out (fun W hW => hW.2.1)) (by assumption) _
                (try simp only [Act.put, nA, nB, nC])
                refine' wpAnyH_take (i := 14) (oi := ⟨some 64, .move (.tmp 7), 51, "ref.go:249", #[⟨9, .guard⟩], some (9, true)⟩) rfl (by kernel_rfl) (by kernel_rfl) (by kernel_rfl) (fun _ _ _ h => h) (Or.inl ⟨by rfl, _⟩) (by assumption) _
                rotate_left
                · (intro wS hSw; (try dsimp only at hSw); go_simp; try with_reducible rfl)
                try simp only [Act.put, nA, nB, nC]
                refine' wpAnyH_take (i := 15) (oi := ⟨some 65, .move (.tmp 11), 3, "ref.go:249", #[⟨9, .guard⟩], some (9, true)⟩) rfl (by kernel_rfl) (by kernel_rfl) (by kernel_rfl) (fun _ _ _ h => h) (Or.inl ⟨by rfl, _⟩) (by assumption) _
                rotate_left
                · (intro wS hSw; (try dsimp only at hSw); go_simp; try with_reducible rfl)
                try simp only [Act.put, nA, nB, nC]
                refine' wpAnyH_take (i := 16) (oi := ⟨some 66, .indexAddr 51 (.tmp 64) (.tmp 65), 0, "ref.go:249", #[⟨14, .data⟩, ⟨15, .data⟩, ⟨9, .guard⟩], some (9, true)⟩) rfl (by kernel_rfl) (by kernel_rfl) (by kernel_rfl) (fun _ _ _ h => h) (Or.inl ⟨by rfl, _⟩) (by assumption) _
                rotate_left
                · (intro wS hSw; (try dsimp only at hSw); go_simp; try with_reducible rfl)
                try simp only [Act.put, nA, nB, nC]
                refine' wpAnyH_take (i := 17) (oi := ⟨some 67, .load 106 (.tmp 66), 106, "ref.go:249", #[⟨16, .data⟩, ⟨9, .guard⟩], some (9, true)⟩) rfl (by kernel_rfl) (by kernel_rfl) (by kernel_rfl) (fun _ _ _ h => h) (yieldsIf_loadQ (by rfl) _ rfl g (j * 64) rfl Xj HXj.out (fun W hW => hW.2.2)) (by assumption) _
                (try simp only [Act.put, nA, nB, nC])
                refine' wpAnyH_take (i := 18) (oi := ⟨some 68, .binOp .neq 106 (.tmp 63) (.tmp 67) 106, 4, "ref.go:249", #[⟨13, .data⟩, ⟨17, .data⟩, ⟨9, .guard⟩], some (9, true)⟩) rfl (by kernel_rfl) (by kernel_rfl) (by kernel_rfl) (fun _ _ _ h => h) (Or.inl ⟨by rfl, _⟩) (by assumption) _
                rotate_left
                · (intro wS hSw; (try dsimp only at hSw); go_simp; try with_reducible rfl)
                try simp only [Act.put, nA, nB, nC]
                refine' wpAnyH_take (i := 19) (oi := ⟨some 69, .pick (.tmp 59) (.tmp 68) (.const (.bool false)), 4, "ref.go:249", #[⟨9, .data⟩, ⟨18, .data⟩], none⟩) rfl (by kernel_rfl) (by kernel_rfl) (by kernel_rfl) (fun _ _ _ h => h) (Or.inl ⟨by rfl, _⟩) (by assumption) _
                rotate_left
                · (intro wS hSw; (try dsimp only at hSw); go_simp; try with_reducible rfl)
                try simp only [Act.put, nA, nB, nC]
                refine wpAnyH_done (by kernel_rfl) ?_ _
                clear hq0 hqg hq1 hqh hHeld HR
                have F3 : Hid (OwnR wr.drew N (.slice (some ⟨g2, 0, none⟩) T cap2) (C.map (knS m)) ∧ OwnQ wr.drew N (.slice (some ⟨g, 0, none⟩) T cap) C ∧ Below N w wr.drew) := ⟨F2.out.1, F2.out.2.1, F2.out.2.2.drew⟩
                clear F2
                clear Hk HN1
                go_wp2_with fail
                go_ret
                exact ⟨rfl, F3.out.2.2⟩
end Go.Proofs.Ytihbhpggpnmifaa

namespace Go.Proofs.Ytihbhpggpnmifaa
open Hw
set_option linter.unusedVariables false

theorem under_sub (w : Nat) (L : List Dg) (a n : Nat) (hn : 2 ≤ n) (h : a + n ≤ L.length) : underP w ((L.drop a).take n) = underP w ((L.drop a).take (halfN n)) ++ (underP w ((L.drop (a + halfN n)).take (n - halfN n)) ++ [spanD w L a (halfN n) ++ spanD w L (a + halfN n) (n - halfN n)]) := by
  have hs := half_spec hn
  have hl : ((L.drop a).take n).length = n := by simp; omega
  have e1 : ((L.drop a).take n).take (halfN n) = (L.drop a).take (halfN n) := by rw [List.take_take, Nat.min_eq_left (by omega)]
  have e2 : ((L.drop a).take n).drop (halfN n) = (L.drop (a + halfN n)).take (n - halfN n) := by rw [List.drop_take, List.drop_drop]
  rw [underP_more w _ (by omega), hl, e1, e2]
  rfl
theorem only_clash (w : Nat) (L : List Dg) (hL : All32 L) (old : Dg) (hold : old.length = 32) (A : List Dg) : ∀ (n m a : Nat) (t : List Dg) (whole : Bool), 1 ≤ m → m ≤ n → a + n ≤ L.length → All32 t → (rtwo w old m n t whole).2.2.2 = true → (rtwo w old m n t whole).2.1 = spanD w L a n → (∀ s ∈ underP w ((L.drop a).take n), s ∈ A) →
    (rtwo w old m n t whole).1 = spanD w L a m ∨ ∃ s1 ∈ (rtwo w old m n t whole).2.2.1, ∃ s2 ∈ A, s1 ≠ s2 ∧ knS w s1 = knS w s2 := by
  intro n
  induction n using Nat.strongRecOn with
  | _ n ih =>
    intro m a t whole h0 hmn hal ht hok he hA
    by_cases h1 : m = n
    · subst h1
      left
      rw [← he]
      rw [rtwo_same _ _ _ _ _ h0] at hok ⊢
      cases whole
      · simp only [Bool.false_eq_true, if_false] at hok ⊢
        by_cases h2 : t.length = 1
        · rw [if_pos h2]
        · rw [if_neg h2] at hok; cases hok
      · simp only [if_true]
    · have hs := half_spec (n := n) (by omega)
      rcases List.eq_nil_or_concat t with rfl | ⟨r, last, rfl⟩
      · rw [rtwo_nil _ _ _ _ _ h0 (by omega)] at hok
        cases hok
      rw [List.concat_eq_append] at hok he ht ⊢
      have htr : All32 r := fun d hd => ht d (by simp [hd])
      have hll : last.length = 32 := ht last (by simp)
      rw [under_sub w L a n (by omega) hal] at hA
      have hA1 : ∀ s ∈ underP w ((L.drop a).take (halfN n)), s ∈ A := fun s hs => hA s (List.mem_append_left _ hs)
      have hA2 : ∀ s ∈ underP w ((L.drop (a + halfN n)).take (n - halfN n)), s ∈ A := fun s hs => hA s (List.mem_append_right _ (List.mem_append_left _ hs))
      have hA3 : spanD w L a (halfN n) ++ spanD w L (a + halfN n) (n - halfN n) ∈ A := hA _ (List.mem_append_right _ (List.mem_append_right _ (List.mem_singleton.2 rfl)))
      have l1 := spanD_length w L a (halfN n) hL (by omega)
      have l2 := spanD_length w L (a + halfN n) (n - halfN n) hL (by omega)
      rw [spanD_more w L a n (by omega) hal] at he
      by_cases hk : m ≤ halfN n
      · rw [rtwo_left _ _ _ _ _ _ _ h0 (by omega) hk] at hok he ⊢
        simp only at hok he ⊢
        have hsh := rtwo_shape w old hold (halfN n) m r whole h0 hk htr
        by_cases hq : (rtwo w old m (halfN n) r whole).2.1 ++ last = spanD w L a (halfN n) ++ spanD w L (a + halfN n) (n - halfN n)
        · obtain ⟨q1, _⟩ := List.append_inj hq (by rw [hsh.2.1, l1])
          rcases ih (halfN n) (by omega) m a r whole h0 hk (by omega) htr hok q1 hA1 with h | ⟨s1, hs1, s2, hs2, h3, h4⟩
          · exact .inl h
          · exact .inr ⟨s1, List.mem_append_left _ hs1, s2, hs2, h3, h4⟩
        · refine .inr ⟨_, List.mem_append_right _ (List.mem_singleton.2 rfl), _, hA3, hq, ?_⟩
          rw [knS_app _ _ _ hsh.2.1, knS_app _ _ _ l1, he]
      · rw [rtwo_right _ _ _ _ _ _ _ h0 (by omega) hk] at hok he ⊢
        simp only at hok he ⊢
        have hsh := rtwo_shape w old hold (n - halfN n) (m - halfN n) r false (by omega) (by omega) htr
        by_cases hq : last ++ (rtwo w old (m - halfN n) (n - halfN n) r false).2.1 = spanD w L a (halfN n) ++ spanD w L (a + halfN n) (n - halfN n)
        · obtain ⟨q1, q2⟩ := List.append_inj hq (by rw [hll, l1])
          rcases ih (n - halfN n) (by omega) (m - halfN n) (a + halfN n) r false (by omega) (by omega) (by omega) htr hok q2 hA2 with h | ⟨s1, hs1, s2, hs2, h3, h4⟩
          · left
            have hsm := half_same (n := n) (by omega) (by omega : halfN n < m) hmn
            rw [h, q1, spanD_more w L a m (by omega) (by omega), hsm]
          · exact .inr ⟨s1, List.mem_append_left _ (List.mem_append_left _ hs1), s2, hs2, h3, h4⟩
        · refine .inr ⟨_, List.mem_append_right _ (List.mem_singleton.2 rfl), _, hA3, hq, ?_⟩
          rw [knS_app _ _ _ hll, knS_app _ _ _ l1, he]
theorem steps_mem (w : Nat) (l : List Dg) : ∀ (N n : Nat), n < N → ∀ s ∈ underP w (l.take n), s ∈ stepsL w l N
  | 0, n, h => by omega
  | N + 1, n, h => fun s hs => by
    rw [stepsL]
    by_cases h1 : n = N
    · subst h1; exact List.mem_append_right _ hs
    · exact List.mem_append_left _ (steps_mem w l N n (by omega) s hs)
/-- the two places at which Clash finds the two -/
theorem clash_at (w : Nat) (A S : List Dg) (s1 s2 : Dg) (h1 : s1 ∈ S) (h2 : s2 ∈ A) (hne : s1 ≠ s2) (hk : knS w s1 = knS w s2) : ∃ (i k : Nat) (X Y : Dg), k < i ∧ (A ++ S)[i]? = some X ∧ (A ++ S)[k]? = some Y ∧ X ≠ Y ∧ knS w X = knS w Y := by
  obtain ⟨i, hi, rfl⟩ := List.mem_iff_getElem.1 h1
  obtain ⟨k, hk2, rfl⟩ := List.mem_iff_getElem.1 h2
  refine ⟨A.length + i, k, S[i], A[k], by omega, ?_, ?_, hne, hk⟩
  · rw [List.getElem?_append_right (by omega), Nat.add_sub_cancel_left, List.getElem?_eq_getElem hi]
  · rw [List.getElem?_append_left hk2, List.getElem?_eq_getElem hk2]
end Go.Proofs.Ytihbhpggpnmifaa

namespace Go.Proofs.Ytihbhpggpnmifaa
open Go.RowKit Go.Lib Hw
set_option linter.unusedVariables false

theorem Only_bad (n : Int) (v v2 v5 : Value) (s : Nat) (od : Dg) (w : World) (h : Hid (wideB n = false)) :
    Calls Try.prog 7 #[.int .i64 n, v, v2, hv s od, v5] w fun e w' => e = .returned (.bool true) ∧ Below w.heap.size w w' := by
  go_enter Try.func7, Try.ntmps7
  go_upto_region 0 with fail
  with_reducible refine wp_region_list ?_
  refine wpList_boxB rfl _ _ rfl w.heap.size rfl (hcs s od).toArray rfl ?_
  intro w1 e1 b1 z1
  (try simp only [Act.put, nA, nB, nC])
  (with_reducible refine wpList_plain rfl ?_); intro K hK; go_simp; (with_reducible refine hK _ _ ?_); clear hK K; try simp only [Act.put, nA, nB, nC]
  go_upto_region 2 with (go_at_call 22; refine (refRight_any _ _).mono ?_; rintro e w' ⟨rfl, rfl⟩; rw [h.out])
  go_wp2_with (go_at_call 15; refine (lives_any _).mono ?_; rintro e w' ⟨rfl, hb⟩)
  go_ret
  exact ⟨rfl, b1.trans (hb.mono (by omega))⟩

set_option maxRecDepth 4000 in
set_option maxHeartbeats 16000000 in
theorem Only_ok (wd : Nat) (hw : 1 ≤ wd) (hwd : wd ≤ 32) (ad : Option Addr) (n c : Nat) (ss : List ByteArray) (size s : Nat) (od : Dg) (vq : Value) (q : List Dg) (w : World) (hvr : Hid (StrRow w (.slice ad n c) ss)) (hnc : n ≤ c) (hn : n = ss.length) (hss : Hid (∀ s ∈ ss, s.size ≤ 140737488351232))
    (hi : size < 18446744073709551616) (hs : s < 18446744073709551616) (hll : Hid (od.length = 32)) (hq : Hid (DRow w w.heap.size vq q)) :
    Calls Try.prog 7 #[.int .i64 (wd : Int), .slice ad n c, .int .u64 (size : Int), hv s od, vq] w fun e w' => e = .returned (.bool true) ∧ Below w.heap.size w w' := by
  have hwb : wideB (wd : Int) = true := by simp [wideB]; omega
  have HWb := Lib.hid hwb
  have hT24 : min n 24 ≤ 24 := Nat.min_le_right _ _
  have htk := hvr.out.take (min n 24) (by rw [← hn]; exact Nat.min_le_left _ _)
  have HFew : Hid (∀ w, StrRow w (.slice ad n c) ss → Calls Try.prog 23 #[.slice ad n c] w fun e w' => e = .returned (.slice ad (min n 24) c) ∧ w = w') := fun w h => few_any ad n c ss w h hnc hn
  obtain ⟨T, hT⟩ : ∃ T, min n 24 = T := ⟨_, rfl⟩
  have htl : (ss.take T).length = T := by rw [List.length_take, ← hT]; omega
  rw [hT] at HFew hT24 htk
  obtain ⟨t, ht⟩ : ∃ t, ss.take T = t := ⟨_, rfl⟩
  have hts : ∀ s ∈ t, s.size ≤ 140737488351232 := fun s hs => hss.out s (List.mem_of_mem_take (by rw [ht]; exact hs))
  rw [ht] at htk htl
  obtain ⟨N, hN⟩ : ∃ N, w.heap.size = N := ⟨_, rfl⟩
  rw [hN] at hq ⊢
  have HN := Lib.hid hN
  obtain ⟨L, hL⟩ : ∃ L, t.map (leafD wd) = L := ⟨_, rfl⟩
  have HL := Lib.hid hL
  have hLl : L.length = T := by rw [← hL, List.length_map, htl]
  have hLa : All32 L := by
    rw [← hL]
    intro d hd
    obtain ⟨s, _, rfl⟩ := List.mem_map.1 hd
    exact leafD_length _ _
  have hLf : AllFit wd L := by
    rw [← hL]
    intro d hd
    obtain ⟨s, _, rfl⟩ := List.mem_map.1 hd
    exact fit_leaf wd s hw hwd
  have HT := Lib.hid htk
  have HTl := Lib.hid htl
  have HTs := Lib.hid hts
  have HLl := Lib.hid hLl
  have HLa := Lib.hid hLa
  have HLf := Lib.hid hLf
  clear hwb htk htl hts hLl hLa hLf hL ht hT hss hN hn
  by_cases hsT : size ≤ T
  case neg =>
    go_enter Try.func7, Try.ntmps7
    go_upto_region 0 with fail
    with_reducible refine wp_region_list ?_
    refine wpList_boxB rfl _ _ rfl N HN.out (hcs s od).toArray rfl ?_
    intro w0 e0 b0 z0
    (try simp only [Act.put, nA, nB, nC])
    (with_reducible refine wpList_plain rfl ?_); intro K hK; go_simp; (with_reducible refine hK _ _ ?_); clear hK K; try simp only [Act.put, nA, nB, nC]
    have E0 : Hid (HB w0 N s od) := e0
    have B0 := Lib.hid b0
    have Hv0 := hvr.out.below' (by rw [HN.out]; exact b0)
    have HT0 := Lib.hid (HT.out.below' (by rw [HN.out]; exact b0))
    clear e0 b0
    go_upto_region 3 with (go_at_call 22; refine (refRight_any _ _).mono ?_; rintro e w' ⟨rfl, rfl⟩; rw [HWb.out])
    with_reducible refine wp_region_list ?_
    (with_reducible refine wpList_plain rfl ?_); intro K hK; go_simp; (with_reducible refine hK _ _ ?_); clear hK K; try simp only [Act.put, nA, nB, nC]
    with_reducible refine wpList_plain rfl ?_
    intro K hK
    go_simp
    refine (HFew.out _ Hv0).mono ?_; rintro e w' ⟨rfl, rfl⟩
    first | with_reducible refine hK _ _ ?_ | refine hK _ _ ?_
    clear hK K
    (try simp only [Act.put, nA, nB, nC])
    clear Hv0
    (with_reducible refine wpList_plain rfl ?_); intro K hK; go_simp; (with_reducible refine hK _ _ ?_); clear hK K; try simp only [Act.put, nA, nB, nC]
    go_upto_region 4 with fail
    with_reducible refine wp_region_list ?_
    (with_reducible refine wpList_plain rfl ?_); intro K hK; go_simp; (with_reducible refine hK _ _ ?_); clear hK K; try simp only [Act.put, nA, nB, nC]
    (with_reducible refine wpList_plain rfl ?_); intro K hK; go_simp; (with_reducible refine hK _ _ ?_); clear hK K; try simp only [Act.put, nA, nB, nC]
    with_reducible refine wpList_plain rfl ?_
    intro K hK
    go_simp
    refine (New_gen wd _ t w0 hw hwd HT0 (by rw [HTl.out]; omega) (Lib.hid (fun s h => by have := HTs.out s h; omega))).mono ?_; rintro e w1 ⟨p, b, lv, rfl, l1, b1⟩; rw [HL.out, z0] at l1
    first | with_reducible refine hK _ _ ?_ | refine hK _ _ ?_
    clear hK K
    (try simp only [Act.put, nA, nB, nC])
    have T1 : Hid (LogB w1 (N + 1) p b lv wd L) := l1
    have E1 := Lib.hid (heap_below E0.out b1 (by omega))
    have B1 := Lib.hid (B0.out.trans (b1.mono (by omega)))
    have hz1 := b1.size
    clear l1 b1 E0 B0 HT0
    (with_reducible refine wpList_plain rfl ?_); intro K hK; go_simp; (with_reducible refine hK _ _ ?_); clear hK K; try simp only [Act.put, nA, nB, nC]
    (with_reducible refine wpList_plain rfl ?_); intro K hK; go_simp; (with_reducible refine hK _ _ ?_); clear hK K; try simp only [Act.put, nA, nB, nC]
    (with_reducible refine wpList_plain rfl ?_); intro K hK; go_simp; (with_reducible refine hK _ _ ?_); clear hK K; try simp only [Act.put, nA, nB, nC]
    (with_reducible refine wpList_plain rfl ?_); intro K hK; go_simp; (with_reducible refine hK _ _ ?_); clear hK K; try simp only [Act.put, nA, nB, nC]
    (with_reducible refine wpList_plain rfl ?_); intro K hK; go_simp; (with_reducible refine hK _ _ ?_); clear hK K; try simp only [Act.put, nA, nB, nC]
    go_upto_region 5 with fail
    with_reducible refine wp_region_list ?_
    (with_reducible refine wpList_plain rfl ?_); intro K hK; go_simp; (with_reducible refine hK _ _ ?_); clear hK K; try simp only [Act.put, nA, nB, nC]
    (with_reducible refine wpList_plain rfl ?_); intro K hK; go_simp; (with_reducible refine hK _ _ ?_); clear hK K; try simp only [Act.put, nA, nB, nC]
    (with_reducible refine wpList_plain rfl ?_); intro K hK; go_simp; (with_reducible refine hK _ _ ?_); clear hK K; try simp only [Act.put, nA, nB, nC]
    (with_reducible refine wpList_step ?_); intro K hK; rw [if_pos (by rfl)]; go_simp; (with_reducible refine hK _ _ ?_); clear hK K; try simp only [Act.put, nA, nB, nC]
    (with_reducible refine wpList_step ?_); intro K hK; rw [if_pos (by rfl)]; go_simp; (with_reducible refine hK _ _ ?_); clear hK K; try simp only [Act.put, nA, nB, nC]
    (with_reducible refine wpList_plain rfl ?_); intro K hK; go_simp; (with_reducible refine hK _ _ ?_); clear hK K; try simp only [Act.put, nA, nB, nC]
    (with_reducible refine wpList_plain rfl ?_); intro K hK; go_simp; (with_reducible refine hK _ _ ?_); clear hK K; try simp only [Act.put, nA, nB, nC]
    with_reducible refine wpList_step ?_
    intro K hK
    rw [if_pos (by rfl)]
    go_simp
    refine (lives_any _).mono ?_; rintro e w2 ⟨rfl, b2⟩
    first | with_reducible refine hK _ _ ?_ | refine hK _ _ ?_
    clear hK K
    (try simp only [Act.put, nA, nB, nC])
    have T2 := Lib.hid (T1.out.below b2)
    have E2 := Lib.hid (heap_below E1.out b2 (by omega))
    have B2 := Lib.hid (B1.out.trans (b2.mono (by omega)))
    have hz2 := b2.size
    clear b2 T1 B1 E1
    (with_reducible refine wpList_step ?_); intro K hK; rw [if_pos (by rfl)]; go_simp; (with_reducible refine hK _ _ ?_); clear hK K; try simp only [Act.put, nA, nB, nC]
    (with_reducible refine wpList_plain rfl ?_); intro K hK; go_simp; (with_reducible refine hK _ _ ?_); clear hK K; try simp only [Act.put, nA, nB, nC]
    go_upto_region 7 with fail
    with_reducible refine wp_region_list ?_
    (with_reducible refine wpList_plain rfl ?_); intro K hK; go_simp; (with_reducible refine hK _ _ ?_); clear hK K; try simp only [Act.put, nA, nB, nC]
    (with_reducible refine wpList_plain rfl ?_); intro K hK; go_simp; (with_reducible refine hK _ _ ?_); clear hK K; try simp only [Act.put, nA, nB, nC]
    with_reducible refine wpList_plain rfl ?_
    intro K hK
    go_simp
    refine (Head_no w2 (N + 1) p b lv wd L size T2 hw (by rw [HLl.out]; omega)).mono ?_; rintro e w3 ⟨rfl, b3⟩
    first | with_reducible refine hK _ _ ?_ | refine hK _ _ ?_
    clear hK K
    (try simp only [Act.put, nA, nB, nC])
    have B3 := Lib.hid (B2.out.trans (b3.mono (by omega)))
    have hz3 := b3.size
    clear b3 T2 B2 E2
    (with_reducible refine wpList_plain rfl ?_); intro K hK; go_simp; (with_reducible refine hK _ _ ?_); clear hK K; try simp only [Act.put, nA, nB, nC]
    (with_reducible refine wpList_plain rfl ?_); intro K hK; go_simp; (with_reducible refine hK _ _ ?_); clear hK K; try simp only [Act.put, nA, nB, nC]
    (with_reducible refine wpList_plain rfl ?_); intro K hK; go_simp; (with_reducible refine hK _ _ ?_); clear hK K; try simp only [Act.put, nA, nB, nC]
    obtain ⟨x, hx⟩ : ∃ x, w3.heap.size = x := ⟨_, rfl⟩
    refine wpList_allocH rfl rfl x hx ?_
    intro w4 e4 b4 z4
    (try simp only [Act.put, nA, nB, nC])
    refine wpList_storeH rfl _ _ rfl x rfl 0 0 zeros32 zeros32 rfl rfl e4 rfl ?_
    intro w5 e5 k5 b5 z5
    (try simp only [Act.put, nA, nB, nC])
    (with_reducible refine wpList_plain rfl ?_); intro K hK; go_simp; (with_reducible refine hK _ _ ?_); clear hK K; try simp only [Act.put, nA, nB, nC]
    have B5 := Lib.hid (B3.out.trans ((b4.trans b5).mono (by omega)))
    clear e4 b4 z4 e5 k5 b5 z5 B3
    have ds : decide (size ≤ T) = false := decide_eq_false (by omega)
    have ds2 : decide ((size : Int) ≤ (T : Int)) = false := decide_eq_false (by omega)
    have wT := IntWalk.u64_in (T : Int) (by omega)
    go_upto_region 8 with fail
    with_reducible refine wp_region_list ?_
    (with_reducible refine wpList_plain rfl ?_); intro K hK; go_simp; (with_reducible refine hK _ _ ?_); clear hK K; try simp only [Act.put, nA, nB, nC]
    (with_reducible refine wpList_plain rfl ?_); intro K hK; go_simp; (with_reducible refine hK _ _ ?_); clear hK K; try simp only [Act.put, nA, nB, nC]
    (with_reducible refine wpList_plain rfl ?_); intro K hK; go_simp; (with_reducible refine hK _ _ ?_); clear hK K; try simp only [Act.put, nA, nB, nC]
    (with_reducible refine wpList_step ?_); intro K hK; rw [if_neg (Bool.eq_false_iff.1 (by rfl))]; (with_reducible refine hK _ _ ?_); clear hK K; try simp only [Act.put, nA, nB, nC]
    (with_reducible refine wpList_step ?_); intro K hK; rw [if_neg (Bool.eq_false_iff.1 (by rfl))]; (with_reducible refine hK _ _ ?_); clear hK K; try simp only [Act.put, nA, nB, nC]
    (with_reducible refine wpList_step ?_); intro K hK; rw [if_neg (Bool.eq_false_iff.1 (by rfl))]; (with_reducible refine hK _ _ ?_); clear hK K; try simp only [Act.put, nA, nB, nC]
    (with_reducible refine wpList_step ?_); intro K hK; rw [if_neg (Bool.eq_false_iff.1 (by rfl))]; (with_reducible refine hK _ _ ?_); clear hK K; try simp only [Act.put, nA, nB, nC]
    (with_reducible refine wpList_step ?_); intro K hK; rw [if_neg (Bool.eq_false_iff.1 (by rfl))]; (with_reducible refine hK _ _ ?_); clear hK K; try simp only [Act.put, nA, nB, nC]
    (with_reducible refine wpList_step ?_); intro K hK; rw [if_neg (Bool.eq_false_iff.1 (by rfl))]; (with_reducible refine hK _ _ ?_); clear hK K; try simp only [Act.put, nA, nB, nC]
    (with_reducible refine wpList_plain rfl ?_); intro K hK; go_simp; (with_reducible refine hK _ _ ?_); clear hK K; try simp only [Act.put, nA, nB, nC]
    go_wp2_with fail
    go_ret
    exact ⟨rfl, B5.out⟩
  case pos =>
    have hSDl := spanD_length wd L 0 size HLa.out (by rw [HLl.out]; omega)
    obtain ⟨SD, hSD⟩ : ∃ SD, spanD wd L 0 size = SD := ⟨_, rfl⟩
    rw [hSD] at hSDl
    have HSD := Lib.hid hSD
    have HSDl := Lib.hid hSDl
    obtain ⟨H1, hH1⟩ : ∃ x, extendsB wd s od size SD q = x := ⟨_, rfl⟩
    have HH1 := Lib.hid hH1
    clear hSD hSDl hH1
    cases H1
    case false =>
      go_enter Try.func7, Try.ntmps7
      go_upto_region 0 with fail
      with_reducible refine wp_region_list ?_
      refine wpList_boxB rfl _ _ rfl N HN.out (hcs s od).toArray rfl ?_
      intro w0 e0 b0 z0
      (try simp only [Act.put, nA, nB, nC])
      (with_reducible refine wpList_plain rfl ?_); intro K hK; go_simp; (with_reducible refine hK _ _ ?_); clear hK K; try simp only [Act.put, nA, nB, nC]
      have E0 : Hid (HB w0 N s od) := e0
      have B0 := Lib.hid b0
      have Hv0 := hvr.out.below' (by rw [HN.out]; exact b0)
      have HT0 := Lib.hid (HT.out.below' (by rw [HN.out]; exact b0))
      clear e0 b0
      go_upto_region 3 with (go_at_call 22; refine (refRight_any _ _).mono ?_; rintro e w' ⟨rfl, rfl⟩; rw [HWb.out])
      with_reducible refine wp_region_list ?_
      (with_reducible refine wpList_plain rfl ?_); intro K hK; go_simp; (with_reducible refine hK _ _ ?_); clear hK K; try simp only [Act.put, nA, nB, nC]
      with_reducible refine wpList_plain rfl ?_
      intro K hK
      go_simp
      refine (HFew.out _ Hv0).mono ?_; rintro e w' ⟨rfl, rfl⟩
      first | with_reducible refine hK _ _ ?_ | refine hK _ _ ?_
      clear hK K
      (try simp only [Act.put, nA, nB, nC])
      clear Hv0
      (with_reducible refine wpList_plain rfl ?_); intro K hK; go_simp; (with_reducible refine hK _ _ ?_); clear hK K; try simp only [Act.put, nA, nB, nC]
      go_upto_region 4 with fail
      with_reducible refine wp_region_list ?_
      (with_reducible refine wpList_plain rfl ?_); intro K hK; go_simp; (with_reducible refine hK _ _ ?_); clear hK K; try simp only [Act.put, nA, nB, nC]
      (with_reducible refine wpList_plain rfl ?_); intro K hK; go_simp; (with_reducible refine hK _ _ ?_); clear hK K; try simp only [Act.put, nA, nB, nC]
      with_reducible refine wpList_plain rfl ?_
      intro K hK
      go_simp
      refine (New_gen wd _ t w0 hw hwd HT0 (by rw [HTl.out]; omega) (Lib.hid (fun s h => by have := HTs.out s h; omega))).mono ?_; rintro e w1 ⟨p, b, lv, rfl, l1, b1⟩; rw [HL.out, z0] at l1
      first | with_reducible refine hK _ _ ?_ | refine hK _ _ ?_
      clear hK K
      (try simp only [Act.put, nA, nB, nC])
      have T1 : Hid (LogB w1 (N + 1) p b lv wd L) := l1
      have E1 := Lib.hid (heap_below E0.out b1 (by omega))
      have B1 := Lib.hid (B0.out.trans (b1.mono (by omega)))
      have hz1 := b1.size
      clear l1 b1 E0 B0 HT0
      (with_reducible refine wpList_plain rfl ?_); intro K hK; go_simp; (with_reducible refine hK _ _ ?_); clear hK K; try simp only [Act.put, nA, nB, nC]
      (with_reducible refine wpList_plain rfl ?_); intro K hK; go_simp; (with_reducible refine hK _ _ ?_); clear hK K; try simp only [Act.put, nA, nB, nC]
      (with_reducible refine wpList_plain rfl ?_); intro K hK; go_simp; (with_reducible refine hK _ _ ?_); clear hK K; try simp only [Act.put, nA, nB, nC]
      (with_reducible refine wpList_plain rfl ?_); intro K hK; go_simp; (with_reducible refine hK _ _ ?_); clear hK K; try simp only [Act.put, nA, nB, nC]
      (with_reducible refine wpList_plain rfl ?_); intro K hK; go_simp; (with_reducible refine hK _ _ ?_); clear hK K; try simp only [Act.put, nA, nB, nC]
      go_upto_region 5 with fail
      with_reducible refine wp_region_list ?_
      (with_reducible refine wpList_plain rfl ?_); intro K hK; go_simp; (with_reducible refine hK _ _ ?_); clear hK K; try simp only [Act.put, nA, nB, nC]
      (with_reducible refine wpList_plain rfl ?_); intro K hK; go_simp; (with_reducible refine hK _ _ ?_); clear hK K; try simp only [Act.put, nA, nB, nC]
      (with_reducible refine wpList_plain rfl ?_); intro K hK; go_simp; (with_reducible refine hK _ _ ?_); clear hK K; try simp only [Act.put, nA, nB, nC]
      (with_reducible refine wpList_step ?_); intro K hK; rw [if_pos (by rfl)]; go_simp; (with_reducible refine hK _ _ ?_); clear hK K; try simp only [Act.put, nA, nB, nC]
      (with_reducible refine wpList_step ?_); intro K hK; rw [if_pos (by rfl)]; go_simp; (with_reducible refine hK _ _ ?_); clear hK K; try simp only [Act.put, nA, nB, nC]
      (with_reducible refine wpList_plain rfl ?_); intro K hK; go_simp; (with_reducible refine hK _ _ ?_); clear hK K; try simp only [Act.put, nA, nB, nC]
      (with_reducible refine wpList_plain rfl ?_); intro K hK; go_simp; (with_reducible refine hK _ _ ?_); clear hK K; try simp only [Act.put, nA, nB, nC]
      with_reducible refine wpList_step ?_
      intro K hK
      rw [if_pos (by rfl)]
      go_simp
      refine (lives_any _).mono ?_; rintro e w2 ⟨rfl, b2⟩
      first | with_reducible refine hK _ _ ?_ | refine hK _ _ ?_
      clear hK K
      (try simp only [Act.put, nA, nB, nC])
      have T2 := Lib.hid (T1.out.below b2)
      have E2 := Lib.hid (heap_below E1.out b2 (by omega))
      have B2 := Lib.hid (B1.out.trans (b2.mono (by omega)))
      have hz2 := b2.size
      clear b2 T1 B1 E1
      (with_reducible refine wpList_step ?_); intro K hK; rw [if_pos (by rfl)]; go_simp; (with_reducible refine hK _ _ ?_); clear hK K; try simp only [Act.put, nA, nB, nC]
      (with_reducible refine wpList_plain rfl ?_); intro K hK; go_simp; (with_reducible refine hK _ _ ?_); clear hK K; try simp only [Act.put, nA, nB, nC]
      go_upto_region 7 with fail
      with_reducible refine wp_region_list ?_
      (with_reducible refine wpList_plain rfl ?_); intro K hK; go_simp; (with_reducible refine hK _ _ ?_); clear hK K; try simp only [Act.put, nA, nB, nC]
      (with_reducible refine wpList_plain rfl ?_); intro K hK; go_simp; (with_reducible refine hK _ _ ?_); clear hK K; try simp only [Act.put, nA, nB, nC]
      with_reducible refine wpList_plain rfl ?_
      intro K hK
      go_simp
      refine (Head_yes w2 (N + 1) p b lv wd L size T2 hw hwd (by rw [HLl.out]; omega)).mono ?_; rintro e w3 ⟨rfl, l3, m3⟩; rw [HSD.out]
      first | with_reducible refine hK _ _ ?_ | refine hK _ _ ?_
      clear hK K
      (try simp only [Act.put, nA, nB, nC])
      have hbN := T2.out.hb
      have T3 := Lib.hid l3
      have E3 := Lib.hid (m3.heap E2.out (by omega))
      have B3 := Lib.hid (B2.out.trans (m3.below (n := N) (fun k hk e => by omega) (by omega)))
      have hz3 := m3.size
      clear l3 m3 T2 B2 E2
      (with_reducible refine wpList_plain rfl ?_); intro K hK; go_simp; (with_reducible refine hK _ _ ?_); clear hK K; try simp only [Act.put, nA, nB, nC]
      (with_reducible refine wpList_plain rfl ?_); intro K hK; go_simp; (with_reducible refine hK _ _ ?_); clear hK K; try simp only [Act.put, nA, nB, nC]
      (with_reducible refine wpList_plain rfl ?_); intro K hK; go_simp; (with_reducible refine hK _ _ ?_); clear hK K; try simp only [Act.put, nA, nB, nC]
      obtain ⟨x, hx⟩ : ∃ x, w3.heap.size = x := ⟨_, rfl⟩
      refine wpList_allocH rfl rfl x hx ?_
      intro w4 e4 b4 z4
      (try simp only [Act.put, nA, nB, nC])
      refine wpList_storeH rfl _ _ rfl x rfl 0 size zeros32 SD rfl HSDl.out e4 rfl ?_
      intro w5 e5 k5 b5 z5
      (try simp only [Act.put, nA, nB, nC])
      (with_reducible refine wpList_plain rfl ?_); intro K hK; go_simp; (with_reducible refine hK _ _ ?_); clear hK K; try simp only [Act.put, nA, nB, nC]
      have b35 : Below x w3 w5 := b4.trans b5
      have T5 := Lib.hid (T3.out.below (by rw [hx]; exact b35))
      have E5 := Lib.hid (heap_below E3.out b35 (by omega))
      have B5 := Lib.hid (B3.out.trans (b35.mono (by omega)))
      have K5 := Lib.hid e5
      have hpx : p < x := by have := T3.out.lt; omega
      have hbx : b < x := by have := T3.out.ltb; omega
      have hNx : N + 1 ≤ x := by omega
      have z5' : w5.heap.size = x + 1 := by omega
      clear e4 b4 z4 e5 k5 b5 b35 T3 E3 B3 z5
      have Q5 := Lib.hid ((hq.out.low B5.out (by rw [HN.out]; exact Nat.le_refl _)).mono (lim' := w5.heap.size) (by omega))
      go_upto_region 8 with fail
      with_reducible refine wp_region_list ?_
      (with_reducible refine wpList_plain rfl ?_); intro K hK; go_simp; (with_reducible refine hK _ _ ?_); clear hK K; try simp only [Act.put, nA, nB, nC]
      (with_reducible refine wpList_plain rfl ?_); intro K hK; go_simp; (with_reducible refine hK _ _ ?_); clear hK K; try simp only [Act.put, nA, nB, nC]
      (with_reducible refine wpList_plain rfl ?_); intro K hK; go_simp; (with_reducible refine hK _ _ ?_); clear hK K; try simp only [Act.put, nA, nB, nC]
      (with_reducible refine wpList_step ?_); intro K hK; rw [if_pos (by rfl)]; go_simp; (with_reducible refine hK _ _ ?_); clear hK K; try simp only [Act.put, nA, nB, nC]
      refine wpList_loadHG rfl _ rfl N rfl s od hll.out E5.out ?_
      (try simp only [Act.put, nA, nB, nC])
      refine wpList_loadHG rfl _ rfl x rfl size SD HSDl.out K5.out ?_
      (try simp only [Act.put, nA, nB, nC])
      (with_reducible refine wpList_step ?_); intro K hK; rw [if_pos (by rfl)]; go_simp; (with_reducible refine hK _ _ ?_); clear hK K; try simp only [Act.put, nA, nB, nC]
      with_reducible refine wpList_step ?_
      intro K hK
      rw [if_pos (by rfl)]
      go_simp
      refine (Extends_any wd s size od SD _ q w5 hll HSDl Q5 hs hi).mono ?_; rintro e w6 ⟨rfl, b6⟩; rw [HH1.out]
      first | with_reducible refine hK _ _ ?_ | refine hK _ _ ?_
      clear hK K
      (try simp only [Act.put, nA, nB, nC])
      have T6 := Lib.hid (T5.out.below b6)
      have E6 := Lib.hid (heap_below E5.out b6 (by omega))
      have B6 := Lib.hid (B5.out.trans (b6.mono (by omega)))
      have hz6 := b6.size
      clear b6 T5 E5 K5 B5 Q5
      (with_reducible refine wpList_step ?_); intro K hK; rw [if_pos (by rfl)]; go_simp; (with_reducible refine hK _ _ ?_); clear hK K; try simp only [Act.put, nA, nB, nC]
      (with_reducible refine wpList_plain rfl ?_); intro K hK; go_simp; (with_reducible refine hK _ _ ?_); clear hK K; try simp only [Act.put, nA, nB, nC]
      have ds : decide (size ≤ T) = true := decide_eq_true (by omega)
      have ds2 : decide ((size : Int) ≤ (T : Int)) = true := decide_eq_true (by omega)
      have wT := IntWalk.u64_in (T : Int) (by omega)
      clear T6 E6
      go_wp2_with fail
      go_ret
      exact ⟨rfl, B6.out⟩
    case true =>
      have hse : s ≤ size := by
        have h := HH1.out
        unfold extendsB at h
        simp only [Bool.and_eq_true, decide_eq_true_eq] at h
        exact h.1.2
      have hODl := spanD_length wd L 0 s HLa.out (by rw [HLl.out]; omega)
      obtain ⟨OD, hOD⟩ : ∃ OD, spanD wd L 0 s = OD := ⟨_, rfl⟩
      rw [hOD] at hODl
      have HOD := Lib.hid hOD
      have HODl := Lib.hid hODl
      obtain ⟨Q, hQ⟩ : ∃ Q, (OD == od) = Q := ⟨_, rfl⟩
      have HQ := Lib.hid hQ
      clear hOD hODl hQ
      cases Q
      case true =>
        go_enter Try.func7, Try.ntmps7
        go_upto_region 0 with fail
        with_reducible refine wp_region_list ?_
        refine wpList_boxB rfl _ _ rfl N HN.out (hcs s od).toArray rfl ?_
        intro w0 e0 b0 z0
        (try simp only [Act.put, nA, nB, nC])
        (with_reducible refine wpList_plain rfl ?_); intro K hK; go_simp; (with_reducible refine hK _ _ ?_); clear hK K; try simp only [Act.put, nA, nB, nC]
        have E0 : Hid (HB w0 N s od) := e0
        have B0 := Lib.hid b0
        have Hv0 := hvr.out.below' (by rw [HN.out]; exact b0)
        have HT0 := Lib.hid (HT.out.below' (by rw [HN.out]; exact b0))
        clear e0 b0
        go_upto_region 3 with (go_at_call 22; refine (refRight_any _ _).mono ?_; rintro e w' ⟨rfl, rfl⟩; rw [HWb.out])
        with_reducible refine wp_region_list ?_
        (with_reducible refine wpList_plain rfl ?_); intro K hK; go_simp; (with_reducible refine hK _ _ ?_); clear hK K; try simp only [Act.put, nA, nB, nC]
        with_reducible refine wpList_plain rfl ?_
        intro K hK
        go_simp
        refine (HFew.out _ Hv0).mono ?_; rintro e w' ⟨rfl, rfl⟩
        first | with_reducible refine hK _ _ ?_ | refine hK _ _ ?_
        clear hK K
        (try simp only [Act.put, nA, nB, nC])
        clear Hv0
        (with_reducible refine wpList_plain rfl ?_); intro K hK; go_simp; (with_reducible refine hK _ _ ?_); clear hK K; try simp only [Act.put, nA, nB, nC]
        go_upto_region 4 with fail
        with_reducible refine wp_region_list ?_
        (with_reducible refine wpList_plain rfl ?_); intro K hK; go_simp; (with_reducible refine hK _ _ ?_); clear hK K; try simp only [Act.put, nA, nB, nC]
        (with_reducible refine wpList_plain rfl ?_); intro K hK; go_simp; (with_reducible refine hK _ _ ?_); clear hK K; try simp only [Act.put, nA, nB, nC]
        with_reducible refine wpList_plain rfl ?_
        intro K hK
        go_simp
        refine (New_gen wd _ t w0 hw hwd HT0 (by rw [HTl.out]; omega) (Lib.hid (fun s h => by have := HTs.out s h; omega))).mono ?_; rintro e w1 ⟨p, b, lv, rfl, l1, b1⟩; rw [HL.out, z0] at l1
        first | with_reducible refine hK _ _ ?_ | refine hK _ _ ?_
        clear hK K
        (try simp only [Act.put, nA, nB, nC])
        have T1 : Hid (LogB w1 (N + 1) p b lv wd L) := l1
        have E1 := Lib.hid (heap_below E0.out b1 (by omega))
        have B1 := Lib.hid (B0.out.trans (b1.mono (by omega)))
        have hz1 := b1.size
        clear l1 b1 E0 B0 HT0
        (with_reducible refine wpList_plain rfl ?_); intro K hK; go_simp; (with_reducible refine hK _ _ ?_); clear hK K; try simp only [Act.put, nA, nB, nC]
        (with_reducible refine wpList_plain rfl ?_); intro K hK; go_simp; (with_reducible refine hK _ _ ?_); clear hK K; try simp only [Act.put, nA, nB, nC]
        (with_reducible refine wpList_plain rfl ?_); intro K hK; go_simp; (with_reducible refine hK _ _ ?_); clear hK K; try simp only [Act.put, nA, nB, nC]
        (with_reducible refine wpList_plain rfl ?_); intro K hK; go_simp; (with_reducible refine hK _ _ ?_); clear hK K; try simp only [Act.put, nA, nB, nC]
        (with_reducible refine wpList_plain rfl ?_); intro K hK; go_simp; (with_reducible refine hK _ _ ?_); clear hK K; try simp only [Act.put, nA, nB, nC]
        go_upto_region 5 with fail
        with_reducible refine wp_region_list ?_
        (with_reducible refine wpList_plain rfl ?_); intro K hK; go_simp; (with_reducible refine hK _ _ ?_); clear hK K; try simp only [Act.put, nA, nB, nC]
        (with_reducible refine wpList_plain rfl ?_); intro K hK; go_simp; (with_reducible refine hK _ _ ?_); clear hK K; try simp only [Act.put, nA, nB, nC]
        (with_reducible refine wpList_plain rfl ?_); intro K hK; go_simp; (with_reducible refine hK _ _ ?_); clear hK K; try simp only [Act.put, nA, nB, nC]
        (with_reducible refine wpList_step ?_); intro K hK; rw [if_pos (by rfl)]; go_simp; (with_reducible refine hK _ _ ?_); clear hK K; try simp only [Act.put, nA, nB, nC]
        (with_reducible refine wpList_step ?_); intro K hK; rw [if_pos (by rfl)]; go_simp; (with_reducible refine hK _ _ ?_); clear hK K; try simp only [Act.put, nA, nB, nC]
        (with_reducible refine wpList_plain rfl ?_); intro K hK; go_simp; (with_reducible refine hK _ _ ?_); clear hK K; try simp only [Act.put, nA, nB, nC]
        (with_reducible refine wpList_plain rfl ?_); intro K hK; go_simp; (with_reducible refine hK _ _ ?_); clear hK K; try simp only [Act.put, nA, nB, nC]
        with_reducible refine wpList_step ?_
        intro K hK
        rw [if_pos (by rfl)]
        go_simp
        refine (lives_any _).mono ?_; rintro e w2 ⟨rfl, b2⟩
        first | with_reducible refine hK _ _ ?_ | refine hK _ _ ?_
        clear hK K
        (try simp only [Act.put, nA, nB, nC])
        have T2 := Lib.hid (T1.out.below b2)
        have E2 := Lib.hid (heap_below E1.out b2 (by omega))
        have B2 := Lib.hid (B1.out.trans (b2.mono (by omega)))
        have hz2 := b2.size
        clear b2 T1 B1 E1
        (with_reducible refine wpList_step ?_); intro K hK; rw [if_pos (by rfl)]; go_simp; (with_reducible refine hK _ _ ?_); clear hK K; try simp only [Act.put, nA, nB, nC]
        (with_reducible refine wpList_plain rfl ?_); intro K hK; go_simp; (with_reducible refine hK _ _ ?_); clear hK K; try simp only [Act.put, nA, nB, nC]
        go_upto_region 7 with fail
        with_reducible refine wp_region_list ?_
        (with_reducible refine wpList_plain rfl ?_); intro K hK; go_simp; (with_reducible refine hK _ _ ?_); clear hK K; try simp only [Act.put, nA, nB, nC]
        (with_reducible refine wpList_plain rfl ?_); intro K hK; go_simp; (with_reducible refine hK _ _ ?_); clear hK K; try simp only [Act.put, nA, nB, nC]
        with_reducible refine wpList_plain rfl ?_
        intro K hK
        go_simp
        refine (Head_yes w2 (N + 1) p b lv wd L size T2 hw hwd (by rw [HLl.out]; omega)).mono ?_; rintro e w3 ⟨rfl, l3, m3⟩; rw [HSD.out]
        first | with_reducible refine hK _ _ ?_ | refine hK _ _ ?_
        clear hK K
        (try simp only [Act.put, nA, nB, nC])
        have hbN := T2.out.hb
        have T3 := Lib.hid l3
        have E3 := Lib.hid (m3.heap E2.out (by omega))
        have B3 := Lib.hid (B2.out.trans (m3.below (n := N) (fun k hk e => by omega) (by omega)))
        have hz3 := m3.size
        clear l3 m3 T2 B2 E2
        (with_reducible refine wpList_plain rfl ?_); intro K hK; go_simp; (with_reducible refine hK _ _ ?_); clear hK K; try simp only [Act.put, nA, nB, nC]
        (with_reducible refine wpList_plain rfl ?_); intro K hK; go_simp; (with_reducible refine hK _ _ ?_); clear hK K; try simp only [Act.put, nA, nB, nC]
        (with_reducible refine wpList_plain rfl ?_); intro K hK; go_simp; (with_reducible refine hK _ _ ?_); clear hK K; try simp only [Act.put, nA, nB, nC]
        obtain ⟨x, hx⟩ : ∃ x, w3.heap.size = x := ⟨_, rfl⟩
        refine wpList_allocH rfl rfl x hx ?_
        intro w4 e4 b4 z4
        (try simp only [Act.put, nA, nB, nC])
        refine wpList_storeH rfl _ _ rfl x rfl 0 size zeros32 SD rfl HSDl.out e4 rfl ?_
        intro w5 e5 k5 b5 z5
        (try simp only [Act.put, nA, nB, nC])
        (with_reducible refine wpList_plain rfl ?_); intro K hK; go_simp; (with_reducible refine hK _ _ ?_); clear hK K; try simp only [Act.put, nA, nB, nC]
        have b35 : Below x w3 w5 := b4.trans b5
        have T5 := Lib.hid (T3.out.below (by rw [hx]; exact b35))
        have E5 := Lib.hid (heap_below E3.out b35 (by omega))
        have B5 := Lib.hid (B3.out.trans (b35.mono (by omega)))
        have K5 := Lib.hid e5
        have hpx : p < x := by have := T3.out.lt; omega
        have hbx : b < x := by have := T3.out.ltb; omega
        have hNx : N + 1 ≤ x := by omega
        have z5' : w5.heap.size = x + 1 := by omega
        clear e4 b4 z4 e5 k5 b5 b35 T3 E3 B3 z5
        have Q5 := Lib.hid ((hq.out.low B5.out (by rw [HN.out]; exact Nat.le_refl _)).mono (lim' := w5.heap.size) (by omega))
        go_upto_region 8 with fail
        with_reducible refine wp_region_list ?_
        (with_reducible refine wpList_plain rfl ?_); intro K hK; go_simp; (with_reducible refine hK _ _ ?_); clear hK K; try simp only [Act.put, nA, nB, nC]
        (with_reducible refine wpList_plain rfl ?_); intro K hK; go_simp; (with_reducible refine hK _ _ ?_); clear hK K; try simp only [Act.put, nA, nB, nC]
        (with_reducible refine wpList_plain rfl ?_); intro K hK; go_simp; (with_reducible refine hK _ _ ?_); clear hK K; try simp only [Act.put, nA, nB, nC]
        (with_reducible refine wpList_step ?_); intro K hK; rw [if_pos (by rfl)]; go_simp; (with_reducible refine hK _ _ ?_); clear hK K; try simp only [Act.put, nA, nB, nC]
        refine wpList_loadHG rfl _ rfl N rfl s od hll.out E5.out ?_
        (try simp only [Act.put, nA, nB, nC])
        refine wpList_loadHG rfl _ rfl x rfl size SD HSDl.out K5.out ?_
        (try simp only [Act.put, nA, nB, nC])
        (with_reducible refine wpList_step ?_); intro K hK; rw [if_pos (by rfl)]; go_simp; (with_reducible refine hK _ _ ?_); clear hK K; try simp only [Act.put, nA, nB, nC]
        with_reducible refine wpList_step ?_
        intro K hK
        rw [if_pos (by rfl)]
        go_simp
        refine (Extends_any wd s size od SD _ q w5 hll HSDl Q5 hs hi).mono ?_; rintro e w6 ⟨rfl, b6⟩; rw [HH1.out]
        first | with_reducible refine hK _ _ ?_ | refine hK _ _ ?_
        clear hK K
        (try simp only [Act.put, nA, nB, nC])
        have T6 := Lib.hid (T5.out.below b6)
        have E6 := Lib.hid (heap_below E5.out b6 (by omega))
        have B6 := Lib.hid (B5.out.trans (b6.mono (by omega)))
        have hz6 := b6.size
        clear b6 T5 E5 K5 B5 Q5
        (with_reducible refine wpList_step ?_); intro K hK; rw [if_pos (by rfl)]; go_simp; (with_reducible refine hK _ _ ?_); clear hK K; try simp only [Act.put, nA, nB, nC]
        (with_reducible refine wpList_plain rfl ?_); intro K hK; go_simp; (with_reducible refine hK _ _ ?_); clear hK K; try simp only [Act.put, nA, nB, nC]
        have c6 : w6.cell? ⟨N, 0, none⟩ = some (.int .u64 (s : Int)) := by rw [heap_cell E6.out]; rfl
        go_upto_region 10 with fail
        with_reducible refine wp_region_list ?_
        (with_reducible refine wpList_plain rfl ?_); intro K hK; go_simp; (with_reducible refine hK _ _ ?_); clear hK K; try simp only [Act.put, nA, nB, nC]
        (with_reducible refine wpList_plain rfl ?_); intro K hK; go_simp; (with_reducible refine hK _ _ ?_); clear hK K; try simp only [Act.put, nA, nB, nC]
        (with_reducible refine wpList_plain rfl ?_); intro K hK; go_simp; (with_reducible refine hK _ _ ?_); clear hK K; try simp only [Act.put, nA, nB, nC]
        with_reducible refine wpList_plain rfl ?_
        intro K hK
        go_simp
        refine (Head_yes w6 (N + 1) p b lv wd L s T6 hw hwd (by rw [HLl.out]; omega)).mono ?_; rintro e w7 ⟨rfl, l7, m7⟩; rw [HOD.out]
        first | with_reducible refine hK _ _ ?_ | refine hK _ _ ?_
        clear hK K
        (try simp only [Act.put, nA, nB, nC])
        have hbN7 := T6.out.hb
        have E7 := Lib.hid (m7.heap E6.out (by omega))
        have B7 := Lib.hid (B6.out.trans (m7.below (n := N) (fun k hk e => by omega) (by omega)))
        have hz7 := m7.size
        clear l7 m7 T6 E6 B6 c6
        (with_reducible refine wpList_plain rfl ?_); intro K hK; go_simp; (with_reducible refine hK _ _ ?_); clear hK K; try simp only [Act.put, nA, nB, nC]
        (with_reducible refine wpList_plain rfl ?_); intro K hK; go_simp; (with_reducible refine hK _ _ ?_); clear hK K; try simp only [Act.put, nA, nB, nC]
        (with_reducible refine wpList_plain rfl ?_); intro K hK; go_simp; (with_reducible refine hK _ _ ?_); clear hK K; try simp only [Act.put, nA, nB, nC]
        obtain ⟨y, hy⟩ : ∃ y, w7.heap.size = y := ⟨_, rfl⟩
        have hxy : x < y := by omega
        refine wpList_allocH rfl rfl y hy ?_
        intro w8 e8 b8 z8
        (try simp only [Act.put, nA, nB, nC])
        refine wpList_storeH rfl _ _ rfl y rfl 0 s zeros32 OD rfl HODl.out e8 rfl ?_
        intro w9 e9 k9 b9 z9
        (try simp only [Act.put, nA, nB, nC])
        (with_reducible refine wpList_plain rfl ?_); intro K hK; go_simp; (with_reducible refine hK _ _ ?_); clear hK K; try simp only [Act.put, nA, nB, nC]
        have b79 : Below y w7 w9 := b8.trans b9
        have E9 := Lib.hid (heap_below E7.out b79 (by omega))
        have Y9 := Lib.hid e9
        have B9 := Lib.hid (B7.out.trans (b79.mono (by omega)))
        have z9' : w9.heap.size = y + 1 := by omega
        clear e8 b8 z8 e9 b9 k9 b79 E7 B7 z9
        have hqd := eqH s s OD od HODl.out hll.out
        rw [beq_self_eq_true, Bool.true_and, HQ.out] at hqd
        have hqg := eqGuardH s s OD od
        go_upto_region 13 with fail
        with_reducible refine wp_region_list ?_
        refine wpList_loadH rfl _ rfl y rfl s OD HODl.out Y9.out ?_
        (try simp only [Act.put, nA, nB, nC])
        refine wpList_loadH rfl _ rfl N rfl s od hll.out E9.out ?_
        (try simp only [Act.put, nA, nB, nC])
        (with_reducible refine wpList_plain rfl ?_); intro K hK; go_simp; (with_reducible refine hK _ _ ?_); clear hK K; try simp only [Act.put, nA, nB, nC]
        clear hqd hqg
        clear E9 Y9
        go_wp2_with fail
        go_ret
        exact ⟨rfl, B9.out⟩
      case false =>
        have hfc : ∃ (i0 k0 : Nat) (XA XB : Dg), 1 ≤ s ∧ k0 < i0 ∧ (stepsL wd L (T + 1) ++ (rtwo wd od s size q true).2.2.1)[i0]? = some XA ∧ (stepsL wd L (T + 1) ++ (rtwo wd od s size q true).2.2.1)[k0]? = some XB ∧ XA ≠ XB ∧ knS wd XA = knS wd XB := by
          have h := HH1.out
          have hne : ¬ OD = od := fun e => by have := HQ.out; rw [e, beq_self_eq_true] at this; cases this
          unfold extendsB at h
          simp only [Bool.and_eq_true, decide_eq_true_eq, Int.toNat_natCast] at h
          have h2 := h.2
          by_cases hss : s = size
          · rw [if_pos hss] at h2
            simp only [Bool.and_eq_true, beq_iff_eq] at h2
            exact absurd (by rw [← HOD.out, hss, HSD.out, h2.1]) hne
          · rw [if_neg hss] at h2
            by_cases hs0 : s = 0
            · rw [if_pos hs0] at h2
              simp only [Bool.and_eq_true, beq_iff_eq] at h2
              exact absurd (by rw [← HOD.out, hs0, spanD_zero, h2.1]) hne
            · rw [if_neg hs0, two_same wd od od SD size s q true (by omega) hse] at h2
              simp only [Bool.and_eq_true, beq_iff_eq] at h2
              obtain ⟨⟨g1, g2⟩, g3⟩ := h2
              rcases only_clash wd L HLa.out od hll.out (stepsL wd L (T + 1)) size s 0 q true (by omega) hse (by rw [HLl.out]; omega) hq.out.1 g1 (by rw [g3, HSD.out]) (fun st hst => steps_mem wd L (T + 1) size (by omega) st (by rw [List.drop_zero] at hst; exact hst)) with h5 | ⟨s1, m1, s2, m2, h6, h7⟩
              · exact absurd (by rw [← HOD.out, ← h5, g2]) hne
              · obtain ⟨i0, k0, XA, XB, q1, q2, q3, q4, q5⟩ := clash_at wd (stepsL wd L (T + 1)) _ s1 s2 m1 m2 h6 h7
                exact ⟨i0, k0, XA, XB, by omega, q1, q2, q3, q4, q5⟩
        obtain ⟨i0, k0, XA, XB, hs1, hki, hXA, hXB, hNe, hKn⟩ := hfc
        have hsh := rtwo_shape wd od hll.out size s q true hs1 hse hq.out.1
        have hal := stepsL_all wd L HLa.out (T + 1)
        have hmul : (T + 1) * L.length ≤ 25 * 24 := Nat.mul_le_mul (by omega) (by rw [HLl.out]; omega)
        have hAl : (stepsL wd L (T + 1)).length ≤ 100000 := by have := hal.2; omega
        have HAl := Lib.hid hal.1
        obtain ⟨⟨X1, X2, XS, okk⟩, hTw⟩ : ∃ r, rtwo wd od s size q true = r := ⟨_, rfl⟩
        rw [hTw] at hsh hXA hXB
        dsimp only at hsh hXA hXB
        have HTw := Lib.hid hTw
        have HX1 := Lib.hid hsh.1
        have HX2 := Lib.hid hsh.2.1
        have HXa := Lib.hid hsh.2.2.1
        have hXl : XS.length ≤ 100000 := by have := hsh.2.2.2; omega
        have HXA := Lib.hid hXA
        have HXB := Lib.hid hXB
        have HNe := Lib.hid hNe
        have HKn := Lib.hid hKn
        clear hsh hal hmul hXA hXB hNe hKn hTw
        go_enter Try.func7, Try.ntmps7
        go_upto_region 0 with fail
        with_reducible refine wp_region_list ?_
        refine wpList_boxB rfl _ _ rfl N HN.out (hcs s od).toArray rfl ?_
        intro w0 e0 b0 z0
        (try simp only [Act.put, nA, nB, nC])
        (with_reducible refine wpList_plain rfl ?_); intro K hK; go_simp; (with_reducible refine hK _ _ ?_); clear hK K; try simp only [Act.put, nA, nB, nC]
        have E0 : Hid (HB w0 N s od) := e0
        have B0 := Lib.hid b0
        have Hv0 := hvr.out.below' (by rw [HN.out]; exact b0)
        have HT0 := Lib.hid (HT.out.below' (by rw [HN.out]; exact b0))
        clear e0 b0
        go_upto_region 3 with (go_at_call 22; refine (refRight_any _ _).mono ?_; rintro e w' ⟨rfl, rfl⟩; rw [HWb.out])
        with_reducible refine wp_region_list ?_
        (with_reducible refine wpList_plain rfl ?_); intro K hK; go_simp; (with_reducible refine hK _ _ ?_); clear hK K; try simp only [Act.put, nA, nB, nC]
        with_reducible refine wpList_plain rfl ?_
        intro K hK
        go_simp
        refine (HFew.out _ Hv0).mono ?_; rintro e w' ⟨rfl, rfl⟩
        first | with_reducible refine hK _ _ ?_ | refine hK _ _ ?_
        clear hK K
        (try simp only [Act.put, nA, nB, nC])
        clear Hv0
        (with_reducible refine wpList_plain rfl ?_); intro K hK; go_simp; (with_reducible refine hK _ _ ?_); clear hK K; try simp only [Act.put, nA, nB, nC]
        go_upto_region 4 with fail
        with_reducible refine wp_region_list ?_
        (with_reducible refine wpList_plain rfl ?_); intro K hK; go_simp; (with_reducible refine hK _ _ ?_); clear hK K; try simp only [Act.put, nA, nB, nC]
        (with_reducible refine wpList_plain rfl ?_); intro K hK; go_simp; (with_reducible refine hK _ _ ?_); clear hK K; try simp only [Act.put, nA, nB, nC]
        with_reducible refine wpList_plain rfl ?_
        intro K hK
        go_simp
        refine (New_gen wd _ t w0 hw hwd HT0 (by rw [HTl.out]; omega) (Lib.hid (fun s h => by have := HTs.out s h; omega))).mono ?_; rintro e w1 ⟨p, b, lv, rfl, l1, b1⟩; rw [HL.out, z0] at l1
        first | with_reducible refine hK _ _ ?_ | refine hK _ _ ?_
        clear hK K
        (try simp only [Act.put, nA, nB, nC])
        have T1 : Hid (LogB w1 (N + 1) p b lv wd L) := l1
        have E1 := Lib.hid (heap_below E0.out b1 (by omega))
        have B1 := Lib.hid (B0.out.trans (b1.mono (by omega)))
        have hz1 := b1.size
        clear l1 b1 E0 B0 HT0
        (with_reducible refine wpList_plain rfl ?_); intro K hK; go_simp; (with_reducible refine hK _ _ ?_); clear hK K; try simp only [Act.put, nA, nB, nC]
        (with_reducible refine wpList_plain rfl ?_); intro K hK; go_simp; (with_reducible refine hK _ _ ?_); clear hK K; try simp only [Act.put, nA, nB, nC]
        (with_reducible refine wpList_plain rfl ?_); intro K hK; go_simp; (with_reducible refine hK _ _ ?_); clear hK K; try simp only [Act.put, nA, nB, nC]
        (with_reducible refine wpList_plain rfl ?_); intro K hK; go_simp; (with_reducible refine hK _ _ ?_); clear hK K; try simp only [Act.put, nA, nB, nC]
        (with_reducible refine wpList_plain rfl ?_); intro K hK; go_simp; (with_reducible refine hK _ _ ?_); clear hK K; try simp only [Act.put, nA, nB, nC]
        go_upto_region 5 with fail
        with_reducible refine wp_region_list ?_
        (with_reducible refine wpList_plain rfl ?_); intro K hK; go_simp; (with_reducible refine hK _ _ ?_); clear hK K; try simp only [Act.put, nA, nB, nC]
        (with_reducible refine wpList_plain rfl ?_); intro K hK; go_simp; (with_reducible refine hK _ _ ?_); clear hK K; try simp only [Act.put, nA, nB, nC]
        (with_reducible refine wpList_plain rfl ?_); intro K hK; go_simp; (with_reducible refine hK _ _ ?_); clear hK K; try simp only [Act.put, nA, nB, nC]
        (with_reducible refine wpList_step ?_); intro K hK; rw [if_pos (by rfl)]; go_simp; (with_reducible refine hK _ _ ?_); clear hK K; try simp only [Act.put, nA, nB, nC]
        (with_reducible refine wpList_step ?_); intro K hK; rw [if_pos (by rfl)]; go_simp; (with_reducible refine hK _ _ ?_); clear hK K; try simp only [Act.put, nA, nB, nC]
        (with_reducible refine wpList_plain rfl ?_); intro K hK; go_simp; (with_reducible refine hK _ _ ?_); clear hK K; try simp only [Act.put, nA, nB, nC]
        (with_reducible refine wpList_plain rfl ?_); intro K hK; go_simp; (with_reducible refine hK _ _ ?_); clear hK K; try simp only [Act.put, nA, nB, nC]
        with_reducible refine wpList_step ?_
        intro K hK
        rw [if_pos (by rfl)]
        go_simp
        refine (lives_any _).mono ?_; rintro e w2 ⟨rfl, b2⟩
        first | with_reducible refine hK _ _ ?_ | refine hK _ _ ?_
        clear hK K
        (try simp only [Act.put, nA, nB, nC])
        have T2 := Lib.hid (T1.out.below b2)
        have E2 := Lib.hid (heap_below E1.out b2 (by omega))
        have B2 := Lib.hid (B1.out.trans (b2.mono (by omega)))
        have hz2 := b2.size
        clear b2 T1 B1 E1
        (with_reducible refine wpList_step ?_); intro K hK; rw [if_pos (by rfl)]; go_simp; (with_reducible refine hK _ _ ?_); clear hK K; try simp only [Act.put, nA, nB, nC]
        (with_reducible refine wpList_plain rfl ?_); intro K hK; go_simp; (with_reducible refine hK _ _ ?_); clear hK K; try simp only [Act.put, nA, nB, nC]
        go_upto_region 7 with fail
        with_reducible refine wp_region_list ?_
        (with_reducible refine wpList_plain rfl ?_); intro K hK; go_simp; (with_reducible refine hK _ _ ?_); clear hK K; try simp only [Act.put, nA, nB, nC]
        (with_reducible refine wpList_plain rfl ?_); intro K hK; go_simp; (with_reducible refine hK _ _ ?_); clear hK K; try simp only [Act.put, nA, nB, nC]
        with_reducible refine wpList_plain rfl ?_
        intro K hK
        go_simp
        refine (Head_yes w2 (N + 1) p b lv wd L size T2 hw hwd (by rw [HLl.out]; omega)).mono ?_; rintro e w3 ⟨rfl, l3, m3⟩; rw [HSD.out]
        first | with_reducible refine hK _ _ ?_ | refine hK _ _ ?_
        clear hK K
        (try simp only [Act.put, nA, nB, nC])
        have hbN := T2.out.hb
        have T3 := Lib.hid l3
        have E3 := Lib.hid (m3.heap E2.out (by omega))
        have B3 := Lib.hid (B2.out.trans (m3.below (n := N) (fun k hk e => by omega) (by omega)))
        have hz3 := m3.size
        clear l3 m3 T2 B2 E2
        (with_reducible refine wpList_plain rfl ?_); intro K hK; go_simp; (with_reducible refine hK _ _ ?_); clear hK K; try simp only [Act.put, nA, nB, nC]
        (with_reducible refine wpList_plain rfl ?_); intro K hK; go_simp; (with_reducible refine hK _ _ ?_); clear hK K; try simp only [Act.put, nA, nB, nC]
        (with_reducible refine wpList_plain rfl ?_); intro K hK; go_simp; (with_reducible refine hK _ _ ?_); clear hK K; try simp only [Act.put, nA, nB, nC]
        obtain ⟨x, hx⟩ : ∃ x, w3.heap.size = x := ⟨_, rfl⟩
        refine wpList_allocH rfl rfl x hx ?_
        intro w4 e4 b4 z4
        (try simp only [Act.put, nA, nB, nC])
        refine wpList_storeH rfl _ _ rfl x rfl 0 size zeros32 SD rfl HSDl.out e4 rfl ?_
        intro w5 e5 k5 b5 z5
        (try simp only [Act.put, nA, nB, nC])
        (with_reducible refine wpList_plain rfl ?_); intro K hK; go_simp; (with_reducible refine hK _ _ ?_); clear hK K; try simp only [Act.put, nA, nB, nC]
        have b35 : Below x w3 w5 := b4.trans b5
        have T5 := Lib.hid (T3.out.below (by rw [hx]; exact b35))
        have E5 := Lib.hid (heap_below E3.out b35 (by omega))
        have B5 := Lib.hid (B3.out.trans (b35.mono (by omega)))
        have K5 := Lib.hid e5
        have hpx : p < x := by have := T3.out.lt; omega
        have hbx : b < x := by have := T3.out.ltb; omega
        have hNx : N + 1 ≤ x := by omega
        have z5' : w5.heap.size = x + 1 := by omega
        clear e4 b4 z4 e5 k5 b5 b35 T3 E3 B3 z5
        have Q5 := Lib.hid ((hq.out.low B5.out (by rw [HN.out]; exact Nat.le_refl _)).mono (lim' := w5.heap.size) (by omega))
        go_upto_region 8 with fail
        with_reducible refine wp_region_list ?_
        (with_reducible refine wpList_plain rfl ?_); intro K hK; go_simp; (with_reducible refine hK _ _ ?_); clear hK K; try simp only [Act.put, nA, nB, nC]
        (with_reducible refine wpList_plain rfl ?_); intro K hK; go_simp; (with_reducible refine hK _ _ ?_); clear hK K; try simp only [Act.put, nA, nB, nC]
        (with_reducible refine wpList_plain rfl ?_); intro K hK; go_simp; (with_reducible refine hK _ _ ?_); clear hK K; try simp only [Act.put, nA, nB, nC]
        (with_reducible refine wpList_step ?_); intro K hK; rw [if_pos (by rfl)]; go_simp; (with_reducible refine hK _ _ ?_); clear hK K; try simp only [Act.put, nA, nB, nC]
        refine wpList_loadHG rfl _ rfl N rfl s od hll.out E5.out ?_
        (try simp only [Act.put, nA, nB, nC])
        refine wpList_loadHG rfl _ rfl x rfl size SD HSDl.out K5.out ?_
        (try simp only [Act.put, nA, nB, nC])
        (with_reducible refine wpList_step ?_); intro K hK; rw [if_pos (by rfl)]; go_simp; (with_reducible refine hK _ _ ?_); clear hK K; try simp only [Act.put, nA, nB, nC]
        with_reducible refine wpList_step ?_
        intro K hK
        rw [if_pos (by rfl)]
        go_simp
        refine (Extends_any wd s size od SD _ q w5 hll HSDl Q5 hs hi).mono ?_; rintro e w6 ⟨rfl, b6⟩; rw [HH1.out]
        first | with_reducible refine hK _ _ ?_ | refine hK _ _ ?_
        clear hK K
        (try simp only [Act.put, nA, nB, nC])
        have T6 := Lib.hid (T5.out.below b6)
        have E6 := Lib.hid (heap_below E5.out b6 (by omega))
        have B6 := Lib.hid (B5.out.trans (b6.mono (by omega)))
        have hz6 := b6.size
        clear b6 T5 E5 K5 B5 Q5
        (with_reducible refine wpList_step ?_); intro K hK; rw [if_pos (by rfl)]; go_simp; (with_reducible refine hK _ _ ?_); clear hK K; try simp only [Act.put, nA, nB, nC]
        (with_reducible refine wpList_plain rfl ?_); intro K hK; go_simp; (with_reducible refine hK _ _ ?_); clear hK K; try simp only [Act.put, nA, nB, nC]
        have c6 : w6.cell? ⟨N, 0, none⟩ = some (.int .u64 (s : Int)) := by rw [heap_cell E6.out]; rfl
        go_upto_region 10 with fail
        with_reducible refine wp_region_list ?_
        (with_reducible refine wpList_plain rfl ?_); intro K hK; go_simp; (with_reducible refine hK _ _ ?_); clear hK K; try simp only [Act.put, nA, nB, nC]
        (with_reducible refine wpList_plain rfl ?_); intro K hK; go_simp; (with_reducible refine hK _ _ ?_); clear hK K; try simp only [Act.put, nA, nB, nC]
        (with_reducible refine wpList_plain rfl ?_); intro K hK; go_simp; (with_reducible refine hK _ _ ?_); clear hK K; try simp only [Act.put, nA, nB, nC]
        with_reducible refine wpList_plain rfl ?_
        intro K hK
        go_simp
        refine (Head_yes w6 (N + 1) p b lv wd L s T6 hw hwd (by rw [HLl.out]; omega)).mono ?_; rintro e w7 ⟨rfl, l7, m7⟩; rw [HOD.out]
        first | with_reducible refine hK _ _ ?_ | refine hK _ _ ?_
        clear hK K
        (try simp only [Act.put, nA, nB, nC])
        have hbN7 := T6.out.hb
        have E7 := Lib.hid (m7.heap E6.out (by omega))
        have B7 := Lib.hid (B6.out.trans (m7.below (n := N) (fun k hk e => by omega) (by omega)))
        have hz7 := m7.size
        clear l7 m7 T6 E6 B6 c6
        (with_reducible refine wpList_plain rfl ?_); intro K hK; go_simp; (with_reducible refine hK _ _ ?_); clear hK K; try simp only [Act.put, nA, nB, nC]
        (with_reducible refine wpList_plain rfl ?_); intro K hK; go_simp; (with_reducible refine hK _ _ ?_); clear hK K; try simp only [Act.put, nA, nB, nC]
        (with_reducible refine wpList_plain rfl ?_); intro K hK; go_simp; (with_reducible refine hK _ _ ?_); clear hK K; try simp only [Act.put, nA, nB, nC]
        obtain ⟨y, hy⟩ : ∃ y, w7.heap.size = y := ⟨_, rfl⟩
        have hxy : x < y := by omega
        refine wpList_allocH rfl rfl y hy ?_
        intro w8 e8 b8 z8
        (try simp only [Act.put, nA, nB, nC])
        refine wpList_storeH rfl _ _ rfl y rfl 0 s zeros32 OD rfl HODl.out e8 rfl ?_
        intro w9 e9 k9 b9 z9
        (try simp only [Act.put, nA, nB, nC])
        (with_reducible refine wpList_plain rfl ?_); intro K hK; go_simp; (with_reducible refine hK _ _ ?_); clear hK K; try simp only [Act.put, nA, nB, nC]
        have b79 : Below y w7 w9 := b8.trans b9
        have E9 := Lib.hid (heap_below E7.out b79 (by omega))
        have Y9 := Lib.hid e9
        have B9 := Lib.hid (B7.out.trans (b79.mono (by omega)))
        have z9' : w9.heap.size = y + 1 := by omega
        clear e8 b8 z8 e9 b9 k9 b79 E7 B7 z9
        have hqd := eqH s s OD od HODl.out hll.out
        rw [beq_self_eq_true, Bool.true_and, HQ.out] at hqd
        have hqg := eqGuardH s s OD od
        go_upto_region 13 with fail
        with_reducible refine wp_region_list ?_
        refine wpList_loadH rfl _ rfl y rfl s OD HODl.out Y9.out ?_
        (try simp only [Act.put, nA, nB, nC])
        refine wpList_loadH rfl _ rfl N rfl s od hll.out E9.out ?_
        (try simp only [Act.put, nA, nB, nC])
        (with_reducible refine wpList_plain rfl ?_); intro K hK; go_simp; (with_reducible refine hK _ _ ?_); clear hK K; try simp only [Act.put, nA, nB, nC]
        clear hqd hqg
        clear Y9
        go_upto_region 17 with fail
        go_loopw [17, 18] (fun lv i wr => ∃ (k : Nat), k ≤ T ∧ Hid (OwnR wr N lv (L.take k)) ∧ Hid (HB wr N s od) ∧ Hid (Below N w wr) ∧ Hid (∀ g, lv.ownBlock = some g → N + 1 ≤ g) ∧ i = .int .i64 (k : Int)) (fun _ i _ => T - (intOf i).toNat)
        case atStart => exact ⟨0, Nat.zero_le _, OwnR.nil _ _, E9, B9, fun g hg => by simp [Value.ownBlock] at hg, rfl⟩
        case round =>
          obtain ⟨k, hk, HR, E, B, HG, rfl⟩ := hrel
          clear E9 B9
          have hNr : N + 1 ≤ wr.heap.size := heap_lt E.out
          by_cases hlt : k < T
          case pos =>
            have dk : decide (k < T) = true := decide_eq_true hlt
            have dk2 : decide ((k : Int) < (T : Int)) = true := decide_eq_true (by omega)
            have ik : (k : Int) < (T : Int) := by omega
            have hkt : k < t.length := by rw [HTl.out]; exact hlt
            have hkL : k < L.length := by rw [HLl.out]; exact hlt
            have hrow := HT.out.below' (by rw [HN.out]; exact B.out)
            obtain ⟨vad', vc', hvv', hvs⟩ := strRow_form hrow
            rw [HTl.out] at hvv'
            obtain ⟨rfl, rfl⟩ : ad = vad' ∧ c = vc' := by simpa using hvv'
            obtain ⟨vb, vo, rfl, hcs⟩ := hvs (by omega)
            have hc := hcs k hkt
            have hsz := HTs.out t[k] (List.getElem_mem hkt)
            have hLk : L[k] = leafD wd t[k] := by
              have h := HL.out
              subst h
              rw [List.getElem_map]
            have hnx : L.take (k + 1) = L.take k ++ [L[k]] := by rw [List.take_add_one, List.getElem?_eq_getElem hkL]; rfl
            obtain ⟨tx, htx⟩ : ∃ s, t[k] = s := ⟨_, rfl⟩
            rw [htx] at hc hsz hLk
            obtain ⟨D, hD⟩ : ∃ D, L[k] = D := ⟨_, rfl⟩
            have hDl : D.length = 32 := by rw [← hD]; exact HLa.out _ (List.getElem_mem hkL)
            rw [hD] at hLk hnx
            have hrl : (L.take k).length = k := by rw [List.length_take, HLl.out]; omega
            have HLk : Hid (leafI (wd : Int) tx = D) := hLk.symm
            have HNx := Lib.hid hnx
            have HDl := Lib.hid hDl
            have HSz := Lib.hid hsz
            have HRl := Lib.hid hrl
            have HRa : Hid (All32 (L.take k)) := HLa.out.take k
            have HLe : Hid (leafE (wd : Int) = 0) := leafE_yes HWb.out
            clear hcs hvs hvv' hrow hLk hnx hDl hsz hrl hD htx hkt hkL
            go_upto_region 19 with fail
            with_reducible refine wp_region_list ?_
            (with_reducible refine wpList_plain rfl ?_); intro K hK; go_simp; (with_reducible refine hK _ _ ?_); clear hK K; try simp only [Act.put, nA, nB, nC]
            (with_reducible refine wpList_plain rfl ?_); intro K hK; go_simp; (with_reducible refine hK _ _ ?_); clear hK K; try simp only [Act.put, nA, nB, nC]
            (with_reducible refine wpList_plain rfl ?_); intro K hK; go_simp; (with_reducible refine hK _ _ ?_); clear hK K; try simp only [Act.put, nA, nB, nC]
            (with_reducible refine wpList_plain rfl ?_); intro K hK; go_simp; (with_reducible refine hK _ _ ?_); clear hK K; try simp only [Act.put, nA, nB, nC]
            (with_reducible refine wpList_plain rfl ?_); intro K hK; go_simp; (with_reducible refine hK _ _ ?_); clear hK K; try simp only [Act.put, nA, nB, nC]
            with_reducible refine wpList_plain rfl ?_
            intro K hK
            go_simp
            refine (refLeaf_any wd tx wr HSz.out).mono ?_; rintro e wa ⟨rfl, ba⟩; rw [HLk.out, HLe.out]
            first | with_reducible refine hK _ _ ?_ | refine hK _ _ ?_
            clear hK K
            (try simp only [Act.put, nA, nB, nC])
            have Ra := Lib.hid (HR.out.below ba (fun g hg => (HR.out.lt g hg).2))
            have Ea := Lib.hid (heap_below E.out ba (by omega))
            have Ba := Lib.hid (B.out.trans (ba.mono (by omega)))
            have hza := ba.size
            clear ba HR E B hc
            (with_reducible refine wpList_plain rfl ?_); intro K hK; go_simp; (with_reducible refine hK _ _ ?_); clear hK K; try simp only [Act.put, nA, nB, nC]
            (with_reducible refine wpList_plain rfl ?_); intro K hK; go_simp; (with_reducible refine hK _ _ ?_); clear hK K; try simp only [Act.put, nA, nB, nC]
            (with_reducible refine wpList_plain rfl ?_); intro K hK; go_simp; (with_reducible refine hK _ _ ?_); clear hK K; try simp only [Act.put, nA, nB, nC]
            obtain ⟨u, hu⟩ : ∃ u, wa.heap.size = u := ⟨_, rfl⟩
            refine wpList_allocD rfl rfl u hu ?_
            intro wb eb bb zb
            (try simp only [Act.put, nA, nB, nC])
            refine wpList_storeD rfl _ _ rfl u rfl zeros32 D rfl HDl.out rfl eb ?_
            intro wc ec bc kc zc
            (try simp only [Act.put, nA, nB, nC])
            (with_reducible refine wpList_plain rfl ?_); intro K hK; go_simp; (with_reducible refine hK _ _ ?_); clear hK K; try simp only [Act.put, nA, nB, nC]
            have bac : Below wa.heap.size wa wc := (bb.trans bc).mono (by omega)
            have Rc := Lib.hid (Ra.out.below bac (fun g hg => (Ra.out.lt g hg).2))
            have Ec := Lib.hid (heap_below Ea.out bac (by omega))
            have Bc := Lib.hid (Ba.out.trans (bac.mono (by omega)))
            have Dc := Lib.hid ec
            have zc' : wc.heap.size = u + 1 := by omega
            clear eb bb zb ec bc kc zc bac Ra Ea Ba
            go_upto_region 20 with fail
            with_reducible refine wp_region_list ?_
            (with_reducible refine wpList_plain rfl ?_); intro K hK; go_simp; (with_reducible refine hK _ _ ?_); clear hK K; try simp only [Act.put, nA, nB, nC]
            refine wpList_loadD rfl _ rfl u rfl D HDl.out Dc.out ?_
            (try simp only [Act.put, nA, nB, nC])
            refine wpList_plain rfl (fun K hK => ?_)
            refine wp_slice1 _ rfl D HDl.out rfl (u + 1) zc' ?_
            intro wd1 ed bd zd
            refine hK _ _ ?_
            clear hK K
            (try simp only [Act.put, nA, nB, nC])
            have hbd : Below wc.heap.size wc wd1 := by rw [zc']; exact bd
            have Rd := Lib.hid (Rc.out.below hbd (fun g hg => (Rc.out.lt g hg).2))
            have Ed := Lib.hid (heap_below Ec.out hbd (by omega))
            have Bd := Lib.hid (Bc.out.trans (hbd.mono (by omega)))
            clear bd hbd Rc Ec Bc Dc
            refine wpList_plain rfl (fun K hK => ?_)
            refine wp_appR wd1 D HDl.out _ _ rfl N _ (L.take k) rfl Rd.out HRa.out (u + 1) 1 rfl ed (by rw [HRl.out]; omega) (by omega) ?_
            intro g2 cap2 we ho hg2 hs2
            refine hK _ _ ?_
            clear hK K
            (try simp only [Act.put, nA, nB, nC])
            rw [HRl.out] at ho ⊢
            have me := Mod.grown (S := fun k => u17.ownBlock = some k) hg2 (fun k e => e)
            have Re : Hid (OwnR we N (.slice (some ⟨g2, 0, none⟩) (k + 1) cap2) (L.take (k + 1))) := by show OwnR _ _ _ _; rw [HNx.out]; exact ho
            have Ee := Lib.hid (me.heap Ed.out (fun e => by have := HG.out _ e; omega))
            have Be := Lib.hid (Bd.out.trans (me.below (n := N) (fun k hk e => by have := HG.out _ e; omega) (by omega)))
            have Ge : Hid (∀ g, (Value.slice (some ⟨g2, 0, none⟩) (k + 1) cap2).ownBlock = some g → N + 1 ≤ g) := fun g hg => by
              have e : g2 = g := Option.some.inj hg
              subst e
              rcases hs2 with h | h
              · exact HG.out g2 h
              · omega
            clear ho hg2 hs2 me Rd Ed Bd ed
            (with_reducible refine wpList_plain rfl ?_); intro K hK; go_simp; (with_reducible refine hK _ _ ?_); clear hK K; try simp only [Act.put, nA, nB, nC]
            go_wp2_with fail
            exact ⟨⟨k + 1, by omega, Re, Ee, Be, Ge, by go_num⟩, by simp [intOf]; omega⟩
          case neg =>
            have dk : decide (k < T) = false := decide_eq_false hlt
            have dk2 : decide ((k : Int) < (T : Int)) = false := decide_eq_false (by omega)
            have hfull : L.take k = L := List.take_of_length_le (by rw [HLl.out]; omega)
            rw [hfull] at HR
            obtain ⟨lad, lcap, rfl⟩ : ∃ lad lcap, u17 = .slice lad T lcap := by
              obtain ⟨lad, lcap, e, _⟩ := HR.out.shape
              exact ⟨lad, lcap, by rw [e, HLl.out]⟩
            have cE : wr.cell? ⟨N, 0, none⟩ = some (.int .u64 (s : Int)) := by rw [heap_cell E.out]; rfl
            have wss := IntWalk.i64_in (s : Int) (by omega)
            have wsz := IntWalk.i64_in (size : Int) (by omega)
            have HSub := Lib.hid (sub_hv s od hll.out)
            have Q1 := Lib.hid ((hq.out.low B.out (by rw [HN.out]; exact Nat.le_refl _)).mono (lim' := wr.heap.size) (by omega))
            clear hfull hk
            go_upto_region 21 with fail
            clear dk dk2 hlt
            with_reducible refine wp_region_list ?_
            (with_reducible refine wpList_plain rfl ?_); intro K hK; go_simp; (with_reducible refine hK _ _ ?_); clear hK K; try simp only [Act.put, nA, nB, nC]
            (with_reducible refine wpList_plain rfl ?_); intro K hK; go_simp; (with_reducible refine hK _ _ ?_); clear hK K; try simp only [Act.put, nA, nB, nC]
            (with_reducible refine wpList_plain rfl ?_); intro K hK; go_simp; (with_reducible refine hK _ _ ?_); clear hK K; try simp only [Act.put, nA, nB, nC]
            (with_reducible refine wpList_plain rfl ?_); intro K hK; go_simp; (with_reducible refine hK _ _ ?_); clear hK K; try simp only [Act.put, nA, nB, nC]
            (with_reducible refine wpList_plain rfl ?_); intro K hK; go_simp; (with_reducible refine hK _ _ ?_); clear hK K; try simp only [Act.put, nA, nB, nC]
            (with_reducible refine wpList_plain rfl ?_); intro K hK; go_simp; (with_reducible refine hK _ _ ?_); clear hK K; try simp only [Act.put, nA, nB, nC]
            (with_reducible refine wpList_plain rfl ?_); intro K hK; go_simp; (with_reducible refine hK _ _ ?_); clear hK K; try simp only [Act.put, nA, nB, nC]
            refine wpList_loadAt rfl _ rfl N 1 rfl od hll.out (hcs s od) _ E.out HSub.out ?_
            (try simp only [Act.put, nA, nB, nC])
            (with_reducible refine wpList_plain rfl ?_); intro K hK; go_simp; (with_reducible refine hK _ _ ?_); clear hK K; try simp only [Act.put, nA, nB, nC]
            with_reducible refine wpList_plain rfl ?_
            intro K hK
            go_simp
            refine (rTwo_any wd hw hwd od hll size s _ q true wr Q1 hs1 (by omega) (by omega)).mono ?_; rintro e wa ⟨sv, rfl, oa, ba⟩; rw [HTw.out] at oa ⊢
            first | with_reducible refine hK _ _ ?_ | refine hK _ _ ?_
            clear hK K
            (try simp only [Act.put, nA, nB, nC])
            have Sa := Lib.hid oa
            have Ra := Lib.hid (HR.out.below ba (fun g hg => (HR.out.lt g hg).2))
            have Ba := Lib.hid (B.out.trans (ba.mono (by omega)))
            have hza := ba.size
            obtain ⟨sad, scap, hsv⟩ := oa.shape
            dsimp only at hsv
            subst hsv
            clear oa ba HR E B Q1 cE
            (with_reducible refine wpList_plain rfl ?_); intro K hK; go_simp; (with_reducible refine hK _ _ ?_); clear hK K; try simp only [Act.put, nA, nB, nC]
            (with_reducible refine wpList_plain rfl ?_); intro K hK; go_simp; (with_reducible refine hK _ _ ?_); clear hK K; try simp only [Act.put, nA, nB, nC]
            (with_reducible refine wpList_plain rfl ?_); intro K hK; go_simp; (with_reducible refine hK _ _ ?_); clear hK K; try simp only [Act.put, nA, nB, nC]
            (with_reducible refine wpList_plain rfl ?_); intro K hK; go_simp; (with_reducible refine hK _ _ ?_); clear hK K; try simp only [Act.put, nA, nB, nC]
            (with_reducible refine wpList_plain rfl ?_); intro K hK; go_simp; (with_reducible refine hK _ _ ?_); clear hK K; try simp only [Act.put, nA, nB, nC]
            obtain ⟨u, hu⟩ : ∃ u, wa.heap.size = u := ⟨_, rfl⟩
            refine wpList_allocD rfl rfl u hu ?_
            intro wb eb bb zb
            (try simp only [Act.put, nA, nB, nC])
            refine wpList_allocD rfl rfl (u + 1) zb ?_
            intro wc ec bc zc
            (try simp only [Act.put, nA, nB, nC])
            refine wpList_storeD rfl _ _ rfl u rfl zeros32 X1 rfl HX1.out rfl (heap_below eb bc (by omega)) ?_
            intro wd1 ed bd kd zd
            (try simp only [Act.put, nA, nB, nC])
            refine wpList_storeD rfl _ _ rfl (u + 1) rfl zeros32 X2 rfl HX2.out rfl (kd.heap ec (by omega)) ?_
            intro we ee be ke ze
            (try simp only [Act.put, nA, nB, nC])
            (with_reducible refine wpList_plain rfl ?_); intro K hK; go_simp; (with_reducible refine hK _ _ ?_); clear hK K; try simp only [Act.put, nA, nB, nC]
            (with_reducible refine wpList_plain rfl ?_); intro K hK; go_simp; (with_reducible refine hK _ _ ?_); clear hK K; try simp only [Act.put, nA, nB, nC]
            have bae : Below wa.heap.size wa we := by rw [hu]; exact ((bb.trans (bc.mono (by omega))).trans bd).trans (be.mono (by omega))
            have Se := Lib.hid (Sa.out.below bae (fun g hg => (Sa.out.lt g hg).2))
            have Re := Lib.hid (Ra.out.below bae (fun g hg => (Ra.out.lt g hg).2))
            have Be := Lib.hid (Ba.out.trans (bae.mono (by omega)))
            have hze := bae.size
            clear eb bb zb ec bc zc ed bd kd zd ee be ke ze bae Sa Ra Ba
            have dr := Lib.hid (Re.out.drow HLa.out (by rw [HLl.out]; omega))
            go_upto_region 22 with fail
            with_reducible refine wp_region_list ?_
            (with_reducible refine wpList_plain rfl ?_); intro K hK; go_simp; (with_reducible refine hK _ _ ?_); clear hK K; try simp only [Act.put, nA, nB, nC]
            (with_reducible refine wpList_plain rfl ?_); intro K hK; go_simp; (with_reducible refine hK _ _ ?_); clear hK K; try simp only [Act.put, nA, nB, nC]
            (with_reducible refine wpList_plain rfl ?_); intro K hK; go_simp; (with_reducible refine hK _ _ ?_); clear hK K; try simp only [Act.put, nA, nB, nC]
            with_reducible refine wpList_plain rfl ?_
            intro K hK
            go_simp
            refine (Steps_any wd hw hwd _ L we dr (by rw [HLl.out]; omega)).mono ?_; rintro e wf ⟨ov, rfl, of, bf⟩; rw [HLl.out] at of
            first | with_reducible refine hK _ _ ?_ | refine hK _ _ ?_
            clear hK K
            (try simp only [Act.put, nA, nB, nC])
            have Sf := Lib.hid (Se.out.below bf (fun g hg => (Se.out.lt g hg).2))
            have Of := Lib.hid of
            have Bf := Lib.hid (Be.out.trans (bf.mono (by omega)))
            have hzf := bf.size
            clear of bf Se Re Be dr
            (with_reducible refine wpList_plain rfl ?_); intro K hK; go_simp; (with_reducible refine hK _ _ ?_); clear hK K; try simp only [Act.put, nA, nB, nC]
            with_reducible refine wpList_plain rfl ?_
            intro K hK
            go_simp
            refine (rClash_any wd hw hwd _ _ _ XS wf _ _ Of Sf HAl HXa hAl hXl i0 k0 XA XB hki HXA HXB HNe HKn).mono ?_; rintro e wg ⟨rfl, bg⟩
            first | with_reducible refine hK _ _ ?_ | refine hK _ _ ?_
            clear hK K
            (try simp only [Act.put, nA, nB, nC])
            have Bg := Lib.hid (Bf.out.trans (bg.mono (by omega)))
            clear bg Of Sf Bf
            (with_reducible refine wpList_plain rfl ?_); intro K hK; go_simp; (with_reducible refine hK _ _ ?_); clear hK K; try simp only [Act.put, nA, nB, nC]
            go_wp2_with fail
            go_ret
            exact ⟨rfl, Bg.out⟩
end Go.Proofs.Ytihbhpggpnmifaa

namespace Go.Proofs.Ytihbhpggpnmifaa
open Go.RowKit Go.Lib Hw
set_option linter.unusedVariables false

theorem wide_nat2 {n : Int} (h : wideB n = true) : ∃ wd : Nat, n = (wd : Int) ∧ 1 ≤ wd ∧ wd ≤ 32 := by
  simp only [wideB, Bool.and_eq_true, decide_eq_true_eq] at h
  exact ⟨n.toNat, by omega, by omega, by omega⟩
theorem RingsOnly_walk (v0 v1 v2 v3 v4 : Value) (w : World) (h0 : IsI64 v0) (h1 : IsStrsZ w v1) (h2 : IsU64 v2) (h3 : IsHead v3) (h4 : IsDgs w v4) :
    Calls Try.prog 7 #[v0, v1, v2, v3, v4] w fun e w' => e = .returned (.bool true) ∧ Below w.heap.size w w' := by
  obtain ⟨n, rfl, _, _⟩ := h0
  obtain ⟨ss, m, c, ad, rfl, hmc, hr, hl, hs⟩ := h1
  obtain ⟨size, rfl, hsz⟩ := h2
  obtain ⟨s, od, rfl, hso, hod⟩ := h3
  obtain ⟨q, hqr, hqn, hql⟩ := h4
  cases hw : wideB n with
  | false => exact Only_bad n _ _ _ s od w hw
  | true =>
    obtain ⟨wd, rfl, h1, h2⟩ := wide_nat2 hw
    have hm : m = ss.length := by
      obtain ⟨_, _, e, _⟩ := hr
      simp only [Value.slice.injEq] at e
      exact e.2.1
    exact Only_ok wd h1 h2 ad m c ss size s od _ q w hr hmc hm hs hsz hso hod hqr
end Go.Proofs.Ytihbhpggpnmifaa

