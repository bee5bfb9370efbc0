/-
  Two lists, two chains, two plans, compared; the law's own frame.
-/
import Derived.Test.YtkngmnfgdlnddaaFreeE
import Derived.Test.YtkngmnfgdlnddaaFreeN
namespace Go.Proofs.Ytkngmnfgdlnddaa
open Go.RowKit Go.Lib Hw Go.Maps
set_option linter.unusedVariables false

def SamePost (q : Bool) (w : World) (e : Ending) (w' : World) : Prop := e = .returned (.bool q) ∧ Below w.heap.size w w'
theorem below_dN (w : World) (q : Nat) : Below w.heap.size w (w.drewN q) := ⟨rfl, rfl, rfl, Nat.le_refl _, fun _ _ => rfl⟩
set_option maxHeartbeats 4000000 in
theorem SameNumbers_any (u v : Value) (xs ys : List Nat) (w : World) (hu : Hid (URow w u xs)) (hv : Hid (URow w v ys)) :
    Calls Try.prog 27 #[u, v] w (SamePost (decide (xs = ys)) w) := by
  obtain ⟨ad, c, hu1, hl, _⟩ := hu.out.form
  obtain ⟨bd, d, hv1, hm, _⟩ := hv.out.form
  subst hu1 hv1
  obtain ⟨R, hR⟩ : ∃ R, SamePost (decide (xs = ys)) w = R := ⟨_, rfl⟩
  have HNo : Hid (∀ W, xs ≠ ys → Below w.heap.size w W → R (.returned (.bool false)) W) := fun W h1 h2 => by
    rw [← hR, decide_eq_false h1]
    exact ⟨rfl, h2⟩
  have HYes : Hid (∀ W, xs = ys → Below w.heap.size w W → R (.returned (.bool true)) W) := fun W h1 h2 => by
    rw [← hR, decide_eq_true h1]
    exact ⟨rfl, h2⟩
  rw [hR]
  clear hR
  by_cases hlen : xs.length = ys.length
  case neg =>
    have e1 : ((xs.length : Int) != (ys.length : Int)) = true := by simp; omega
    have hR := HNo.out w (fun e => hlen (by rw [e])) (Below.refl _ _)
    have HR := Lib.hid hR
    clear hR hlen
    go_enter Try.func27, Try.ntmps27
    go_wp2_with fail
    exact HR.out
  case pos =>
    obtain ⟨n, hn⟩ : ∃ n, ys.length = n := ⟨_, rfl⟩
    have HN := Lib.hid hn
    have HM : Hid (xs.length = n) := hlen.trans hn
    rw [hn] at hv hm ⊢
    rw [hlen, hn] at hu hl ⊢
    clear hlen hn
    have e1 : ((n : Int) != (n : Int)) = false := by simp
    go_enter Try.func27, Try.ntmps27
    go_upto_region 4 with fail
    clear e1
    go_loopw [5] (fun iv wr => ∃ (k : Nat), k ≤ n ∧ Hid (xs.take k = ys.take k) ∧ Hid (Below w.heap.size w wr) ∧ iv = .int .i64 (k : Int)) (fun iv _ => n - (intOf iv).toNat)
    case atStart => exact ⟨0, Nat.zero_le _, by show _ = _; rw [List.take_zero, List.take_zero], Below.refl _ _, rfl⟩
    case round =>
      obtain ⟨k, hk, HT, HB, rfl⟩ := hrel
      by_cases hlt : k < n
      case neg =>
        have ik : ¬ (k : Int) < (n : Int) := by omega
        have hR := HYes.out wr (by
          have h := HT.out
          rw [List.take_of_length_le (by rw [HM.out]; omega), List.take_of_length_le (by rw [HN.out]; omega)] at h
          exact h) HB.out
        have HR := Lib.hid hR
        clear hR
        go_wp2_with fail
        exact HR.out
      case pos =>
        have ik : (k : Int) < (n : Int) := by omega
        have hkx : k < xs.length := by rw [HM.out]; exact hlt
        have hky : k < ys.length := by rw [HN.out]; exact hlt
        obtain ⟨a1, c1, e1, _, g1⟩ := (hu.out.below HB.out).form
        obtain ⟨b1, o1, e2, hc1⟩ := g1 (by omega)
        have e3 := (Value.slice.inj e1).1
        rw [e2] at e3
        subst e3
        obtain ⟨a2, c2, e4, _, g2⟩ := (hv.out.below HB.out).form
        obtain ⟨b2, o2, e5, hc2⟩ := g2 (by omega)
        have e6 := (Value.slice.inj e4).1
        rw [e5] at e6
        subst e6
        have h1 := hc1 k hkx
        have h2 := hc2 k hky
        have t1 := List.take_succ_eq_append_getElem hkx
        have t2 := List.take_succ_eq_append_getElem hky
        have HK : Hid (k < xs.length ∧ k < ys.length) := ⟨hkx, hky⟩
        obtain ⟨x, hx⟩ : ∃ x, xs[k] = x := ⟨_, rfl⟩
        obtain ⟨y, hy⟩ : ∃ x, ys[k] = x := ⟨_, rfl⟩
        have HX : Hid (∃ h : k < xs.length, xs[k] = x) := ⟨hkx, hx⟩
        have HY : Hid (∃ h : k < ys.length, ys[k] = y) := ⟨hky, hy⟩
        rw [hx] at h1 t1
        rw [hy] at h2 t2
        unfold uN at h1 h2
        have T1 := Lib.hid t1
        have T2 := Lib.hid t2
        clear t1 t2 hx hy hc1 hc2 e1 e2 e4 e5 g1 g2 hkx hky
        by_cases hxy : x = y
        case neg =>
          have en : ((x : Int) != (y : Int)) = true := by simp; omega
          go_upto_region 6 with fail
          go_quiet (fail)
          have hR := HNo.out (wr.drewN nq) (fun e => by
            obtain ⟨p1, q1⟩ := HX.out
            obtain ⟨p2, q2⟩ := HY.out
            subst e
            exact hxy (q1.symm.trans q2)) (HB.out.trans ((below_dN wr nq).mono (by exact HB.out.size)))
          have HR := Lib.hid hR
          clear hR hxy
          go_wp2_with fail
          exact HR.out
        case pos =>
          subst hxy
          have en : ((x : Int) != (x : Int)) = false := by simp
          go_upto_region 6 with fail
          go_quiet (fail)
          have HT2 : Hid (xs.take (k + 1) = ys.take (k + 1)) := by show _ = _; rw [T1.out, T2.out, HT.out]
          have HB2 : Hid (Below w.heap.size w (wr.drewN nq)) := HB.out.trans ((below_dN wr nq).mono (by exact HB.out.size))
          clear en h1 h2
          go_wp2_with fail
          exact ⟨⟨k + 1, by omega, HT2, HB2, by go_num⟩, by simp [intOf]; omega⟩
theorem CRow.form {w : World} {v : Value} {cs : List (Nat × List Nat)} (h : CRow w v cs) : ∃ ad c, v = .slice ad cs.length c ∧ cs.length ≤ 9223372036854775807 := by
  obtain ⟨_, ad, c, rfl, h1, h2, _⟩ := h
  exact ⟨ad, c, rfl, by omega⟩
/-- a batch of a chain -/
theorem CRow.at {wr : World} {ad : Option Addr} {n c : Nat} {cs : List (Nat × List Nat)} (h : CRow wr (.slice ad n c) cs) {j : Nat} (hj : j < cs.length) :
    ∃ b o nad nc, ad = some ⟨b, o, none⟩ ∧ wr.rangeAt b (o + j * 2) [uN cs[j].1, .slice nad cs[j].2.length nc] ∧ URow wr (.slice nad cs[j].2.length nc) cs[j].2 ∧ cs[j].1 < 4294967296 := by
  obtain ⟨hp, ad2, c2, hv, _, _, hc⟩ := h
  obtain ⟨b, o, e, hlt, hcs⟩ := hc (by omega)
  obtain ⟨nv, hr, hu⟩ := hcs j hj
  obtain ⟨nad, nc, hnv, _⟩ := hu.form
  subst hnv
  exact ⟨b, o, nad, nc, (Value.slice.inj hv).1.trans e, hr, hu, hp _ (List.getElem_mem hj)⟩
set_option maxHeartbeats 8000000 in
theorem Same_any (u v : Value) (xs ys : List (Nat × List Nat)) (w : World) (hu : Hid (CRow w u xs)) (hv : Hid (CRow w v ys)) :
    Calls Try.prog 44 #[u, v] w (SamePost (decide (xs = ys)) w) := by
  obtain ⟨ad, c, hu1, hl⟩ := hu.out.form
  obtain ⟨bd, d, hv1, hm⟩ := hv.out.form
  subst hu1 hv1
  obtain ⟨R, hR⟩ : ∃ R, SamePost (decide (xs = ys)) w = R := ⟨_, rfl⟩
  have HNo : Hid (∀ W, xs ≠ ys → Below w.heap.size w W → R (.returned (.bool false)) W) := fun W h1 h2 => by
    rw [← hR, decide_eq_false h1]
    exact ⟨rfl, h2⟩
  have HYes : Hid (∀ W, xs = ys → Below w.heap.size w W → R (.returned (.bool true)) W) := fun W h1 h2 => by
    rw [← hR, decide_eq_true h1]
    exact ⟨rfl, h2⟩
  rw [hR]
  clear hR
  by_cases hlen : xs.length = ys.length
  case neg =>
    have e1 : ((xs.length : Int) != (ys.length : Int)) = true := by simp; omega
    have hR := HNo.out w (fun e => hlen (by rw [e])) (Below.refl _ _)
    have HR := Lib.hid hR
    clear hR hlen
    go_enter Try.func44, Try.ntmps44
    go_wp2_with fail
    exact HR.out
  case pos =>
    obtain ⟨n, hn⟩ : ∃ n, ys.length = n := ⟨_, rfl⟩
    have HN := Lib.hid hn
    have HM : Hid (xs.length = n) := hlen.trans hn
    rw [hn] at hv hm ⊢
    rw [hlen, hn] at hu hl ⊢
    clear hlen hn
    have e1 : ((n : Int) != (n : Int)) = false := by simp
    go_enter Try.func44, Try.ntmps44
    go_upto_region 4 with fail
    clear e1
    go_loopw [5] (fun iv wr => ∃ (k : Nat), k ≤ n ∧ Hid (xs.take k = ys.take k) ∧ Hid (Below w.heap.size w wr) ∧ iv = .int .i64 (k : Int)) (fun iv _ => n - (intOf iv).toNat)
    case atStart => exact ⟨0, Nat.zero_le _, by show _ = _; rw [List.take_zero, List.take_zero], Below.refl _ _, rfl⟩
    case round =>
      obtain ⟨k, hk, HT, HB, rfl⟩ := hrel
      by_cases hlt : k < n
      case neg =>
        have ik : ¬ (k : Int) < (n : Int) := by omega
        have hR := HYes.out wr (by
          have h := HT.out
          rw [List.take_of_length_le (by rw [HM.out]; omega), List.take_of_length_le (by rw [HN.out]; omega)] at h
          exact h) HB.out
        have HR := Lib.hid hR
        clear hR
        go_wp2_with fail
        exact HR.out
      case pos =>
        have ik : (k : Int) < (n : Int) := by omega
        have hkx : k < xs.length := by rw [HM.out]; exact hlt
        have hky : k < ys.length := by rw [HN.out]; exact hlt
        obtain ⟨b1, o1, n1, c1, e1, r1, u1, pp1⟩ := (hu.out.below HB.out).at hkx
        obtain ⟨b2, o2, n2, c2, e2, r2, u2, pp2⟩ := (hv.out.below HB.out).at hky
        subst e1 e2
        clear pp1 pp2
        have t1 := List.take_succ_eq_append_getElem hkx
        have t2 := List.take_succ_eq_append_getElem hky
        obtain ⟨⟨x, xl⟩, hx⟩ : ∃ x, xs[k] = x := ⟨_, rfl⟩
        obtain ⟨⟨y, yl⟩, hy⟩ : ∃ x, ys[k] = x := ⟨_, rfl⟩
        have HX : Hid (∃ h : k < xs.length, xs[k] = (x, xl)) := ⟨hkx, hx⟩
        have HY : Hid (∃ h : k < ys.length, ys[k] = (y, yl)) := ⟨hky, hy⟩
        rw [hx] at r1 u1 t1
        rw [hy] at r2 u2 t2
        simp only at r1 u1 r2 u2
        have f1 := r1 0 _ rfl
        have f2 := r1 1 _ rfl
        have f3 := r2 0 _ rfl
        have f4 := r2 1 _ rfl
        unfold uN at f1 f3
        rw [Nat.add_zero] at f1 f3
        have T1 := Lib.hid t1
        have T2 := Lib.hid t2
        have U1 := Lib.hid u1
        have U2 := Lib.hid u2
        clear t1 t2 hx hy r1 r2 u1 u2 hkx hky
        by_cases hxy : x = y
        case neg =>
          have en : ((x : Int) != (y : Int)) = true := by simp; omega
          go_upto_region 6 with fail
          go_quiet (fail)
          have hR := HNo.out (wr.drewN nq) (fun e => by
            obtain ⟨p1, q1⟩ := HX.out
            obtain ⟨p2, q2⟩ := HY.out
            subst e
            rw [q1] at q2
            exact hxy (congrArg Prod.fst q2)) (HB.out.trans ((below_dN wr nq).mono (by exact HB.out.size)))
          have HR := Lib.hid hR
          clear hR hxy
          go_wp2_with fail
          exact HR.out
        case pos =>
          subst hxy
          have en : ((x : Int) != (x : Int)) = false := by simp
          go_upto_region 6 with fail
          refine wp_region_held_drew (S := fun W => W.cell? ⟨b1, o1 + k * 2, none⟩ = some (.int .u32 (x : Int)) ∧ W.cell? ⟨b1, o1 + k * 2 + 1, none⟩ = some (.slice n1 xl.length c1) ∧ W.cell? ⟨b2, o2 + k * 2, none⟩ = some (.int .u32 (x : Int)) ∧ W.cell? ⟨b2, o2 + k * 2 + 1, none⟩ = some (.slice n2 yl.length c2) ∧ Below w.heap.size w W ∧ True) (by kernel_rfl) ⟨f1, f2, f3, f4, HB.out.drew, trivial⟩ (fun hHeld => ?_)
          refine' wpAnyH_take (i := 0) (oi := { dst := Option.some 17, op := Op.move (Operand.tmp 0), type := 44, pos := "ref.go:353", after := #[], guard := Option.none }) rfl (by kernel_rfl) (by kernel_rfl) (by kernel_rfl) (fun _ _ _ h => h) (Or.inl ⟨by rfl, _⟩) (by assumption) _
          rotate_left
          · (intro wS hSw; (try dsimp only at hSw); go_simp; try with_reducible rfl)
          try simp only [Act.put, List.setIfInBounds_toArray, List.set_cons_zero, List.set_cons_succ]
          refine' wpAnyH_take (i := 1) (oi := { dst := Option.some 18, op := Op.move (Operand.tmp 5), type := 3, pos := "ref.go:353", after := #[], guard := Option.none }) rfl (by kernel_rfl) (by kernel_rfl) (by kernel_rfl) (fun _ _ _ h => h) (Or.inl ⟨by rfl, _⟩) (by assumption) _
          rotate_left
          · (intro wS hSw; (try dsimp only at hSw); go_simp; try with_reducible rfl)
          try simp only [Act.put, List.setIfInBounds_toArray, List.set_cons_zero, List.set_cons_succ]
          refine' wpAnyH_take (i := 2) (oi := { dst := Option.some 19, op := Op.indexAddr 44 (Operand.tmp 17) (Operand.tmp 18), type := 0, pos := "ref.go:353", after := #[{ on := 0, ground := Ground.data }, { on := 1, ground := Ground.data }], guard := Option.none }) rfl (by kernel_rfl) (by kernel_rfl) (by kernel_rfl) (fun _ _ _ h => h) (Or.inl ⟨by rfl, _⟩) (by assumption) _
          rotate_left
          · (intro wS hSw; (try dsimp only at hSw); go_simp; try with_reducible rfl)
          try simp only [Act.put, List.setIfInBounds_toArray, List.set_cons_zero, List.set_cons_succ]
          refine' wpAnyH_take (i := 3) (oi := { dst := Option.some 20, op := Op.fieldAddr 64 (Operand.tmp 19) 0, type := 0, pos := "ref.go:353", after := #[{ on := 2, ground := Ground.data }], guard := Option.none }) rfl (by kernel_rfl) (by kernel_rfl) (by kernel_rfl) (fun _ _ _ h => h) (Or.inl ⟨by rfl, _⟩) (by assumption) _
          rotate_left
          · (intro wS hSw; (try dsimp only at hSw); go_simp; try with_reducible rfl)
          try simp only [Act.put, List.setIfInBounds_toArray, List.set_cons_zero, List.set_cons_succ]
          refine' wpAnyH_take (i := 4) (oi := { dst := Option.some 21, op := Op.load 27 (Operand.tmp 20), type := 27, pos := "ref.go:353", after := #[{ on := 3, ground := Ground.data }], guard := Option.none }) rfl (by kernel_rfl) (by kernel_rfl) (by kernel_rfl) (fun _ _ _ h => h) (Or.inl ⟨by rfl, _⟩) (by assumption) _
          rotate_left
          · (intro wS hSw; (try dsimp only at hSw); go_simp; try with_reducible rfl)
          try simp only [Act.put, List.setIfInBounds_toArray, List.set_cons_zero, List.set_cons_succ]
          refine' wpAnyH_take (i := 5) (oi := { dst := Option.some 22, op := Op.move (Operand.tmp 1), type := 44, pos := "ref.go:353", after := #[], guard := Option.none }) rfl (by kernel_rfl) (by kernel_rfl) (by kernel_rfl) (fun _ _ _ h => h) (Or.inl ⟨by rfl, _⟩) (by assumption) _
          rotate_left
          · (intro wS hSw; (try dsimp only at hSw); go_simp; try with_reducible rfl)
          try simp only [Act.put, List.setIfInBounds_toArray, List.set_cons_zero, List.set_cons_succ]
          refine' wpAnyH_take (i := 6) (oi := { dst := Option.some 23, op := Op.move (Operand.tmp 5), type := 3, pos := "ref.go:353", after := #[], guard := Option.none }) rfl (by kernel_rfl) (by kernel_rfl) (by kernel_rfl) (fun _ _ _ h => h) (Or.inl ⟨by rfl, _⟩) (by assumption) _
          rotate_left
          · (intro wS hSw; (try dsimp only at hSw); go_simp; try with_reducible rfl)
          try simp only [Act.put, List.setIfInBounds_toArray, List.set_cons_zero, List.set_cons_succ]
          refine' wpAnyH_take (i := 7) (oi := { dst := Option.some 24, op := Op.indexAddr 44 (Operand.tmp 22) (Operand.tmp 23), type := 0, pos := "ref.go:353", after := #[{ on := 5, ground := Ground.data }, { on := 6, ground := Ground.data }], guard := Option.none }) rfl (by kernel_rfl) (by kernel_rfl) (by kernel_rfl) (fun _ _ _ h => h) (Or.inl ⟨by rfl, _⟩) (by assumption) _
          rotate_left
          · (intro wS hSw; (try dsimp only at hSw); go_simp; try with_reducible rfl)
          try simp only [Act.put, List.setIfInBounds_toArray, List.set_cons_zero, List.set_cons_succ]
          refine' wpAnyH_take (i := 8) (oi := { dst := Option.some 25, op := Op.fieldAddr 64 (Operand.tmp 24) 0, type := 0, pos := "ref.go:353", after := #[{ on := 7, ground := Ground.data }], guard := Option.none }) rfl (by kernel_rfl) (by kernel_rfl) (by kernel_rfl) (fun _ _ _ h => h) (Or.inl ⟨by rfl, _⟩) (by assumption) _
          rotate_left
          · (intro wS hSw; (try dsimp only at hSw); go_simp; try with_reducible rfl)
          try simp only [Act.put, List.setIfInBounds_toArray, List.set_cons_zero, List.set_cons_succ]
          refine' wpAnyH_take (i := 9) (oi := { dst := Option.some 26, op := Op.load 27 (Operand.tmp 25), type := 27, pos := "ref.go:353", after := #[{ on := 8, ground := Ground.data }], guard := Option.none }) rfl (by kernel_rfl) (by kernel_rfl) (by kernel_rfl) (fun _ _ _ h => h) (Or.inl ⟨by rfl, _⟩) (by assumption) _
          rotate_left
          · (intro wS hSw; (try dsimp only at hSw); go_simp; try with_reducible rfl)
          try simp only [Act.put, List.setIfInBounds_toArray, List.set_cons_zero, List.set_cons_succ]
          refine' wpAnyH_take (i := 10) (oi := { dst := Option.some 27, op := Op.binOp BinOp.neq 27 (Operand.tmp 21) (Operand.tmp 26) 27, type := 4, pos := "ref.go:353", after := #[{ on := 4, ground := Ground.data }, { on := 9, ground := Ground.data }], guard := Option.none }) rfl (by kernel_rfl) (by kernel_rfl) (by kernel_rfl) (fun _ _ _ h => h) (Or.inl ⟨by rfl, _⟩) (by assumption) _
          rotate_left
          · (intro wS hSw; (try dsimp only at hSw); go_simp; try with_reducible rfl)
          try simp only [Act.put, List.setIfInBounds_toArray, List.set_cons_zero, List.set_cons_succ]
          refine' wpAnyH_take (i := 11) (oi := { dst := Option.some 28, op := Op.move (Operand.tmp 27), type := 4, pos := "ref.go:353", after := #[{ on := 10, ground := Ground.data }], guard := Option.none }) rfl (by kernel_rfl) (by kernel_rfl) (by kernel_rfl) (fun _ _ _ h => h) (Or.inl ⟨by rfl, _⟩) (by assumption) _
          rotate_left
          · (intro wS hSw; (try dsimp only at hSw); go_simp; try with_reducible rfl)
          try simp only [Act.put, List.setIfInBounds_toArray, List.set_cons_zero, List.set_cons_succ]
          refine' wpAnyH_take (i := 12) (oi := { dst := Option.some 29, op := Op.move (Operand.tmp 0), type := 44, pos := "ref.go:353", after := #[{ on := 11, ground := Ground.guard }], guard := Option.some (11, Bool.false) }) rfl (by kernel_rfl) (by kernel_rfl) (by kernel_rfl) (fun _ _ _ h => h) (Or.inl ⟨by rfl, _⟩) (by assumption) _
          rotate_left
          · (intro wS hSw; (try dsimp only at hSw); go_simp; try with_reducible rfl)
          try simp only [Act.put, List.setIfInBounds_toArray, List.set_cons_zero, List.set_cons_succ]
          refine' wpAnyH_take (i := 13) (oi := { dst := Option.some 30, op := Op.move (Operand.tmp 5), type := 3, pos := "ref.go:353", after := #[{ on := 11, ground := Ground.guard }], guard := Option.some (11, Bool.false) }) rfl (by kernel_rfl) (by kernel_rfl) (by kernel_rfl) (fun _ _ _ h => h) (Or.inl ⟨by rfl, _⟩) (by assumption) _
          rotate_left
          · (intro wS hSw; (try dsimp only at hSw); go_simp; try with_reducible rfl)
          try simp only [Act.put, List.setIfInBounds_toArray, List.set_cons_zero, List.set_cons_succ]
          refine' wpAnyH_take (i := 14) (oi := { dst := Option.some 31, op := Op.indexAddr 44 (Operand.tmp 29) (Operand.tmp 30), type := 0, pos := "ref.go:353", after := #[{ on := 12, ground := Ground.data }, { on := 13, ground := Ground.data }, { on := 11, ground := Ground.guard }], guard := Option.some (11, Bool.false) }) rfl (by kernel_rfl) (by kernel_rfl) (by kernel_rfl) (fun _ _ _ h => h) (Or.inl ⟨by rfl, _⟩) (by assumption) _
          rotate_left
          · (intro wS hSw; (try dsimp only at hSw); go_simp; try with_reducible rfl)
          try simp only [Act.put, List.setIfInBounds_toArray, List.set_cons_zero, List.set_cons_succ]
          refine' wpAnyH_take (i := 15) (oi := { dst := Option.some 32, op := Op.fieldAddr 64 (Operand.tmp 31) 1, type := 0, pos := "ref.go:353", after := #[{ on := 14, ground := Ground.data }, { on := 11, ground := Ground.guard }], guard := Option.some (11, Bool.false) }) rfl (by kernel_rfl) (by kernel_rfl) (by kernel_rfl) (fun _ _ _ h => h) (Or.inl ⟨by rfl, _⟩) (by assumption) _
          rotate_left
          · (intro wS hSw; (try dsimp only at hSw); go_simp; try with_reducible rfl)
          try simp only [Act.put, List.setIfInBounds_toArray, List.set_cons_zero, List.set_cons_succ]
          refine' wpAnyH_take (i := 16) (oi := { dst := Option.some 33, op := Op.load 28 (Operand.tmp 32), type := 28, pos := "ref.go:353", after := #[{ on := 15, ground := Ground.data }, { on := 11, ground := Ground.guard }], guard := Option.some (11, Bool.false) }) rfl (by kernel_rfl) (by kernel_rfl) (by kernel_rfl) (fun _ _ _ h => h) (Or.inl ⟨by rfl, _⟩) (by assumption) _
          rotate_left
          · (intro wS hSw; (try dsimp only at hSw); go_simp; try with_reducible rfl)
          try simp only [Act.put, List.setIfInBounds_toArray, List.set_cons_zero, List.set_cons_succ]
          refine' wpAnyH_take (i := 17) (oi := { dst := Option.some 34, op := Op.move (Operand.tmp 1), type := 44, pos := "ref.go:353", after := #[{ on := 11, ground := Ground.guard }], guard := Option.some (11, Bool.false) }) rfl (by kernel_rfl) (by kernel_rfl) (by kernel_rfl) (fun _ _ _ h => h) (Or.inl ⟨by rfl, _⟩) (by assumption) _
          rotate_left
          · (intro wS hSw; (try dsimp only at hSw); go_simp; try with_reducible rfl)
          try simp only [Act.put, List.setIfInBounds_toArray, List.set_cons_zero, List.set_cons_succ]
          refine' wpAnyH_take (i := 18) (oi := { dst := Option.some 35, op := Op.move (Operand.tmp 5), type := 3, pos := "ref.go:353", after := #[{ on := 11, ground := Ground.guard }], guard := Option.some (11, Bool.false) }) rfl (by kernel_rfl) (by kernel_rfl) (by kernel_rfl) (fun _ _ _ h => h) (Or.inl ⟨by rfl, _⟩) (by assumption) _
          rotate_left
          · (intro wS hSw; (try dsimp only at hSw); go_simp; try with_reducible rfl)
          try simp only [Act.put, List.setIfInBounds_toArray, List.set_cons_zero, List.set_cons_succ]
          refine' wpAnyH_take (i := 19) (oi := { dst := Option.some 36, op := Op.indexAddr 44 (Operand.tmp 34) (Operand.tmp 35), type := 0, pos := "ref.go:353", after := #[{ on := 17, ground := Ground.data }, { on := 18, ground := Ground.data }, { on := 11, ground := Ground.guard }], guard := Option.some (11, Bool.false) }) rfl (by kernel_rfl) (by kernel_rfl) (by kernel_rfl) (fun _ _ _ h => h) (Or.inl ⟨by rfl, _⟩) (by assumption) _
          rotate_left
          · (intro wS hSw; (try dsimp only at hSw); go_simp; try with_reducible rfl)
          try simp only [Act.put, List.setIfInBounds_toArray, List.set_cons_zero, List.set_cons_succ]
          refine' wpAnyH_take (i := 20) (oi := { dst := Option.some 37, op := Op.fieldAddr 64 (Operand.tmp 36) 1, type := 0, pos := "ref.go:353", after := #[{ on := 19, ground := Ground.data }, { on := 11, ground := Ground.guard }], guard := Option.some (11, Bool.false) }) rfl (by kernel_rfl) (by kernel_rfl) (by kernel_rfl) (fun _ _ _ h => h) (Or.inl ⟨by rfl, _⟩) (by assumption) _
          rotate_left
          · (intro wS hSw; (try dsimp only at hSw); go_simp; try with_reducible rfl)
          try simp only [Act.put, List.setIfInBounds_toArray, List.set_cons_zero, List.set_cons_succ]
          refine' wpAnyH_take (i := 21) (oi := { dst := Option.some 38, op := Op.load 28 (Operand.tmp 37), type := 28, pos := "ref.go:353", after := #[{ on := 20, ground := Ground.data }, { on := 11, ground := Ground.guard }], guard := Option.some (11, Bool.false) }) rfl (by kernel_rfl) (by kernel_rfl) (by kernel_rfl) (fun _ _ _ h => h) (Or.inl ⟨by rfl, _⟩) (by assumption) _
          rotate_left
          · (intro wS hSw; (try dsimp only at hSw); go_simp; try with_reducible rfl)
          try simp only [Act.put, List.setIfInBounds_toArray, List.set_cons_zero, List.set_cons_succ]
          obtain ⟨q, hq⟩ : ∃ q, decide (xl = yl) = q := ⟨_, rfl⟩
          have HQ := Lib.hid hq
          clear hq
          refine wpAnyH_ready (rs := [22]) (by kernel_rfl) (by simp) ?_
          refine AllReadyH.cons (o := { dst := Option.some 39, op := Op.call { callee := Callee.value (Operand.func 27), args := #[Operand.tmp 33, Operand.tmp 38], argTypes := #[28, 28] }, type := 4, pos := "ref.go:353", after := #[{ on := 16, ground := Ground.data }, { on := 21, ground := Ground.data }, { on := 11, ground := Ground.chain }, { on := 11, ground := Ground.guard }], guard := Option.some (11, Bool.false) }) rfl (fun K hK => ?_) AllReadyH.nil
          go_simp
          (refine (SameNumbers_any _ _ xl yl _ (Lib.hid U1.out.drew) (Lib.hid U2.out.drew)).mono ?_; rintro e w2 ⟨rfl, b2'⟩; rw [HQ.out])
          refine hK.out _ _ ?_ (fun hHeld => ?_)
          · exact ⟨(World.cell?_of_block (a := ⟨b1, o1 + k * 2, none⟩) (b2'.block b1 (World.block_lt_of_cell? _ _ f1))).trans f1, (World.cell?_of_block (a := ⟨b1, o1 + k * 2 + 1, none⟩) (b2'.block b1 (World.block_lt_of_cell? _ _ f1))).trans f2, (World.cell?_of_block (a := ⟨b2, o2 + k * 2, none⟩) (b2'.block b2 (World.block_lt_of_cell? _ _ f3))).trans f3, (World.cell?_of_block (a := ⟨b2, o2 + k * 2 + 1, none⟩) (b2'.block b2 (World.block_lt_of_cell? _ _ f3))).trans f4, HB.out.drew.trans (b2'.mono (by have := HB.out.size; exact this)), trivial⟩
          clear hK K
          try simp only [Act.put, List.setIfInBounds_toArray, List.set_cons_zero, List.set_cons_succ]
          refine' wpAnyH_take (i := 23) (oi := { dst := Option.some 40, op := Op.unOp UnOp.not 4 (Operand.tmp 39), type := 4, pos := "ref.go:353", after := #[{ on := 22, ground := Ground.data }, { on := 11, ground := Ground.guard }], guard := Option.some (11, Bool.false) }) rfl (by kernel_rfl) (by kernel_rfl) (by kernel_rfl) (fun _ _ _ h => h) (Or.inl ⟨by rfl, _⟩) (by assumption) _
          rotate_left
          · (intro wS hSw; (try dsimp only at hSw); go_simp; try with_reducible rfl)
          try simp only [Act.put, List.setIfInBounds_toArray, List.set_cons_zero, List.set_cons_succ]
          refine' wpAnyH_take (i := 24) (oi := { dst := Option.some 41, op := Op.pick (Operand.tmp 28) (Operand.const (Value.bool Bool.true)) (Operand.tmp 40), type := 4, pos := "ref.go:353", after := #[{ on := 11, ground := Ground.data }, { on := 23, ground := Ground.data }], guard := Option.none }) rfl (by kernel_rfl) (by kernel_rfl) (by kernel_rfl) (fun _ _ _ h => h) (Or.inl ⟨by rfl, _⟩) (by assumption) _
          rotate_left
          · (intro wS hSw; (try dsimp only at hSw); go_simp; try with_reducible rfl)
          try simp only [Act.put, List.setIfInBounds_toArray, List.set_cons_zero, List.set_cons_succ]
          refine wpAnyH_done (by kernel_rfl) ?_ _
          have B2 := Lib.hid hHeld.2.2.2.2.1
          clear hHeld f1 f2 f3 f4 en b2'
          cases q
          case false =>
            have hR := HNo.out w2 (fun e => by
              obtain ⟨p1, q1⟩ := HX.out
              obtain ⟨p2, q2⟩ := HY.out
              subst e
              rw [q1] at q2
              exact of_decide_eq_false HQ.out (congrArg Prod.snd q2)) B2.out
            have HR := Lib.hid hR
            clear hR
            go_wp2_with fail
            exact HR.out
          case true =>
            have hxl : xl = yl := of_decide_eq_true HQ.out
            have HT2 : Hid (xs.take (k + 1) = ys.take (k + 1)) := by show _ = _; rw [T1.out, T2.out, HT.out, hxl]
            clear hxl
            go_wp2_with fail
            exact ⟨⟨k + 1, by omega, HT2, B2, by go_num⟩, by simp [intOf]; omega⟩
set_option maxHeartbeats 4000000 in
theorem SamePlan_any (tv lv tv2 lv2 : Value) (ts ts2 : List Nat) (cs cs2 : List (Nat × List Nat)) (op op2 : Int) (pg pg2 : Nat) (w : World) (ht : Hid (URow w tv ts)) (ht2 : Hid (URow w tv2 ts2)) (hc : Hid (CRow w lv cs)) (hc2 : Hid (CRow w lv2 cs2)) :
    Calls Try.prog 32 #[.agg #[tv, lv, .int .i64 op, .int .u32 (pg : Int)], .agg #[tv2, lv2, .int .i64 op2, .int .u32 (pg2 : Int)]] w (SamePost (decide (op = op2) && (decide (pg = pg2) && (decide (ts = ts2) && decide (cs = cs2)))) w) := by
  obtain ⟨a1, c1, h1, _⟩ := ht.out.form
  obtain ⟨a2, c2, h2, _⟩ := ht2.out.form
  obtain ⟨a3, c3, h3, _⟩ := hc.out.form
  obtain ⟨a4, c4, h4, _⟩ := hc2.out.form
  subst h1 h2 h3 h4
  obtain ⟨N, hN⟩ : ∃ N, w.heap.size = N := ⟨_, rfl⟩
  have HN := Lib.hid hN
  obtain ⟨R, hR⟩ : ∃ R, SamePost (decide (op = op2) && (decide (pg = pg2) && (decide (ts = ts2) && decide (cs = cs2)))) w = R := ⟨_, rfl⟩
  have HR : Hid (∀ W q, (decide (op = op2) && (decide (pg = pg2) && (decide (ts = ts2) && decide (cs = cs2)))) = q → Below N w W → R (.returned (.bool q)) W) := fun W q h1 h2 => by
    rw [← hR, h1]
    exact ⟨rfl, by rw [hN]; exact h2⟩
  rw [hR]
  clear hN hR
  go_enter Try.func32, Try.ntmps32
  go_upto_region 0 with fail
  with_reducible refine wp_region_list ?_
  refine wpList_boxB rfl _ _ rfl N HN.out #[.slice a1 ts.length c1, .slice a3 cs.length c3, .int .i64 op, .int .u32 (pg : Int)] rfl ?_
  intro w1 e1 b1 z1
  (try simp only [Act.put, List.setIfInBounds_toArray, List.set_cons_zero, List.set_cons_succ])
  refine wpList_boxB rfl _ _ rfl (N + 1) z1 #[.slice a2 ts2.length c2, .slice a4 cs2.length c4, .int .i64 op2, .int .u32 (pg2 : Int)] rfl ?_
  intro w2 e2 b2 z2
  (try simp only [Act.put, List.setIfInBounds_toArray, List.set_cons_zero, List.set_cons_succ])
  with_reducible refine wpList_plain rfl ?_
  intro K hK
  go_simp
  first | with_reducible refine hK _ _ ?_ | refine hK _ _ ?_
  clear hK K
  (try simp only [Act.put, List.setIfInBounds_toArray, List.set_cons_zero, List.set_cons_succ])
  have E1 := Lib.hid (heap_below e1 b2 (by omega))
  have E2 := Lib.hid e2
  have B2 : Hid (Below N w w2) := b1.trans (b2.mono (by omega))
  have Z2 := Lib.hid z2
  have X1 : Hid (URow w2 (.slice a1 ts.length c1) ts) := ht.out.below (by rw [HN.out]; exact B2.out)
  have X2 : Hid (URow w2 (.slice a2 ts2.length c2) ts2) := ht2.out.below (by rw [HN.out]; exact B2.out)
  have X3 : Hid (CRow w2 (.slice a3 cs.length c3) cs) := hc.out.below (by rw [HN.out]; exact B2.out)
  have X4 : Hid (CRow w2 (.slice a4 cs2.length c4) cs2) := hc2.out.below (by rw [HN.out]; exact B2.out)
  clear e1 b1 z1 e2 b2 z2
  have f0 := heap_cell E1.out (o := 0)
  have f1 := heap_cell E1.out (o := 1)
  have f2 := heap_cell E1.out (o := 2)
  have f3 := heap_cell E1.out (o := 3)
  have g0 := heap_cell E2.out (o := 0)
  have g1 := heap_cell E2.out (o := 1)
  have g2 := heap_cell E2.out (o := 2)
  have g3 := heap_cell E2.out (o := 3)
  by_cases h1 : op = op2
  case neg =>
    have d1 : (op == op2) = false := by simp [h1]
    have hr := HR.out w2 false (by simp [h1]) B2.out
    have HRR := Lib.hid hr
    clear hr h1
    go_wp2_with fail
    exact HRR.out
  case pos =>
    subst h1
    have d1 : (op == op) = true := by simp
    by_cases h2 : pg = pg2
    case neg =>
      have d2 : ((pg : Int) == (pg2 : Int)) = false := by simp; omega
      have hr := HR.out w2 false (by simp [h2]) B2.out
      have HRR := Lib.hid hr
      clear hr h2
      go_wp2_with fail
      exact HRR.out
    case pos =>
      subst h2
      have d2 : ((pg : Int) == (pg : Int)) = true := by simp
      obtain ⟨q, hq⟩ : ∃ q, decide (ts = ts2) = q := ⟨_, rfl⟩
      have HQ := Lib.hid hq
      clear hq
      go_upto_region 1 with fail
      with_reducible refine wp_region_list ?_
      with_reducible refine wpList_plain rfl ?_
      intro K hK
      go_simp
      first | with_reducible refine hK _ _ ?_ | refine hK _ _ ?_
      clear hK K
      (try simp only [Act.put, List.setIfInBounds_toArray, List.set_cons_zero, List.set_cons_succ])
      with_reducible refine wpList_plain rfl ?_
      intro K hK
      go_simp
      first | with_reducible refine hK _ _ ?_ | refine hK _ _ ?_
      clear hK K
      (try simp only [Act.put, List.setIfInBounds_toArray, List.set_cons_zero, List.set_cons_succ])
      with_reducible refine wpList_plain rfl ?_
      intro K hK
      go_simp
      first | with_reducible refine hK _ _ ?_ | refine hK _ _ ?_
      clear hK K
      (try simp only [Act.put, List.setIfInBounds_toArray, List.set_cons_zero, List.set_cons_succ])
      with_reducible refine wpList_plain rfl ?_
      intro K hK
      go_simp
      first | with_reducible refine hK _ _ ?_ | refine hK _ _ ?_
      clear hK K
      (try simp only [Act.put, List.setIfInBounds_toArray, List.set_cons_zero, List.set_cons_succ])
      with_reducible refine wpList_plain rfl ?_
      intro K hK
      go_simp
      first | with_reducible refine hK _ _ ?_ | refine hK _ _ ?_
      clear hK K
      (try simp only [Act.put, List.setIfInBounds_toArray, List.set_cons_zero, List.set_cons_succ])
      with_reducible refine wpList_plain rfl ?_
      intro K hK
      go_simp
      first | with_reducible refine hK _ _ ?_ | refine hK _ _ ?_
      clear hK K
      (try simp only [Act.put, List.setIfInBounds_toArray, List.set_cons_zero, List.set_cons_succ])
      with_reducible refine wpList_step ?_
      intro K hK
      rw [if_pos (by rfl)]
      go_simp
      first | with_reducible refine hK _ _ ?_ | refine hK _ _ ?_
      clear hK K
      (try simp only [Act.put, List.setIfInBounds_toArray, List.set_cons_zero, List.set_cons_succ])
      with_reducible refine wpList_step ?_
      intro K hK
      rw [if_pos (by rfl)]
      go_simp
      first | with_reducible refine hK _ _ ?_ | refine hK _ _ ?_
      clear hK K
      (try simp only [Act.put, List.setIfInBounds_toArray, List.set_cons_zero, List.set_cons_succ])
      with_reducible refine wpList_step ?_
      intro K hK
      rw [if_pos (by rfl)]
      go_simp
      first | with_reducible refine hK _ _ ?_ | refine hK _ _ ?_
      clear hK K
      (try simp only [Act.put, List.setIfInBounds_toArray, List.set_cons_zero, List.set_cons_succ])
      with_reducible refine wpList_step ?_
      intro K hK
      rw [if_pos (by rfl)]
      go_simp
      first | with_reducible refine hK _ _ ?_ | refine hK _ _ ?_
      clear hK K
      (try simp only [Act.put, List.setIfInBounds_toArray, List.set_cons_zero, List.set_cons_succ])
      with_reducible refine wpList_step ?_
      intro K hK
      rw [if_pos (by rfl)]
      go_simp
      first | with_reducible refine hK _ _ ?_ | refine hK _ _ ?_
      clear hK K
      (try simp only [Act.put, List.setIfInBounds_toArray, List.set_cons_zero, List.set_cons_succ])
      with_reducible refine wpList_plain rfl ?_
      intro K hK
      go_simp
      first | with_reducible refine hK _ _ ?_ | refine hK _ _ ?_
      clear hK K
      (try simp only [Act.put, List.setIfInBounds_toArray, List.set_cons_zero, List.set_cons_succ])
      with_reducible refine wpList_plain rfl ?_
      intro K hK
      go_simp
      first | with_reducible refine hK _ _ ?_ | refine hK _ _ ?_
      clear hK K
      (try simp only [Act.put, List.setIfInBounds_toArray, List.set_cons_zero, List.set_cons_succ])
      with_reducible refine wpList_step ?_
      intro K hK
      rw [if_pos (by rfl)]
      go_simp
      first | with_reducible refine hK _ _ ?_ | refine hK _ _ ?_
      clear hK K
      (try simp only [Act.put, List.setIfInBounds_toArray, List.set_cons_zero, List.set_cons_succ])
      with_reducible refine wpList_step ?_
      intro K hK
      rw [if_pos (by rfl)]
      go_simp
      first | with_reducible refine hK _ _ ?_ | refine hK _ _ ?_
      clear hK K
      (try simp only [Act.put, List.setIfInBounds_toArray, List.set_cons_zero, List.set_cons_succ])
      with_reducible refine wpList_step ?_
      intro K hK
      rw [if_pos (by rfl)]
      go_simp
      first | with_reducible refine hK _ _ ?_ | refine hK _ _ ?_
      clear hK K
      (try simp only [Act.put, List.setIfInBounds_toArray, List.set_cons_zero, List.set_cons_succ])
      with_reducible refine wpList_step ?_
      intro K hK
      rw [if_pos (by rfl)]
      go_simp
      first | with_reducible refine hK _ _ ?_ | refine hK _ _ ?_
      clear hK K
      (try simp only [Act.put, List.setIfInBounds_toArray, List.set_cons_zero, List.set_cons_succ])
      with_reducible refine wpList_step ?_
      intro K hK
      rw [if_pos (by rfl)]
      go_simp
      refine (SameNumbers_any _ _ ts ts2 w2 X1 X2).mono ?_; rintro e w3 ⟨rfl, b3⟩; rw [HQ.out]
      first | with_reducible refine hK _ _ ?_ | refine hK _ _ ?_
      clear hK K
      (try simp only [Act.put, List.setIfInBounds_toArray, List.set_cons_zero, List.set_cons_succ])
      with_reducible refine wpList_plain rfl ?_
      intro K hK
      go_simp
      first | with_reducible refine hK _ _ ?_ | refine hK _ _ ?_
      clear hK K
      (try simp only [Act.put, List.setIfInBounds_toArray, List.set_cons_zero, List.set_cons_succ])
      with_reducible refine wpList_plain rfl ?_
      intro K hK
      go_simp
      first | with_reducible refine hK _ _ ?_ | refine hK _ _ ?_
      clear hK K
      (try simp only [Act.put, List.setIfInBounds_toArray, List.set_cons_zero, List.set_cons_succ])
      have hz2 := Z2.out
      have F1 := Lib.hid (heap_below E1.out b3 (by omega))
      have F2 := Lib.hid (heap_below E2.out b3 (by omega))
      have B3 : Hid (Below N w w3) := B2.out.trans (b3.mono (by omega))
      have X5 : Hid (CRow w3 (.slice a3 cs.length c3) cs) := X3.out.below b3
      have X6 : Hid (CRow w3 (.slice a4 cs2.length c4) cs2) := X4.out.below b3
      have hz3 : N + 2 ≤ w3.heap.size := by have := b3.size; omega
      clear f0 f1 f2 f3 g0 g1 g2 g3 b3
      have f1 := heap_cell F1.out (o := 1)
      have g1 := heap_cell F2.out (o := 1)
      cases q
      case false =>
        have hr := HR.out w3 false (by rw [HQ.out]; simp) B3.out
        have HRR := Lib.hid hr
        clear hr
        with_reducible refine wpList_step ?_
        intro K hK
        rw [if_neg (Bool.eq_false_iff.1 (by rfl))]
        first | with_reducible refine hK _ _ ?_ | refine hK _ _ ?_
        clear hK K
        (try simp only [Act.put, List.setIfInBounds_toArray, List.set_cons_zero, List.set_cons_succ])
        with_reducible refine wpList_step ?_
        intro K hK
        rw [if_neg (Bool.eq_false_iff.1 (by rfl))]
        first | with_reducible refine hK _ _ ?_ | refine hK _ _ ?_
        clear hK K
        (try simp only [Act.put, List.setIfInBounds_toArray, List.set_cons_zero, List.set_cons_succ])
        with_reducible refine wpList_step ?_
        intro K hK
        rw [if_neg (Bool.eq_false_iff.1 (by rfl))]
        first | with_reducible refine hK _ _ ?_ | refine hK _ _ ?_
        clear hK K
        (try simp only [Act.put, List.setIfInBounds_toArray, List.set_cons_zero, List.set_cons_succ])
        with_reducible refine wpList_step ?_
        intro K hK
        rw [if_neg (Bool.eq_false_iff.1 (by rfl))]
        first | with_reducible refine hK _ _ ?_ | refine hK _ _ ?_
        clear hK K
        (try simp only [Act.put, List.setIfInBounds_toArray, List.set_cons_zero, List.set_cons_succ])
        with_reducible refine wpList_step ?_
        intro K hK
        rw [if_neg (Bool.eq_false_iff.1 (by rfl))]
        first | with_reducible refine hK _ _ ?_ | refine hK _ _ ?_
        clear hK K
        (try simp only [Act.put, List.setIfInBounds_toArray, List.set_cons_zero, List.set_cons_succ])
        with_reducible refine wpList_plain rfl ?_
        intro K hK
        go_simp
        first | with_reducible refine hK _ _ ?_ | refine hK _ _ ?_
        clear hK K
        (try simp only [Act.put, List.setIfInBounds_toArray, List.set_cons_zero, List.set_cons_succ])
        with_reducible refine wpList_plain rfl ?_
        intro K hK
        go_simp
        first | with_reducible refine hK _ _ ?_ | refine hK _ _ ?_
        clear hK K
        (try simp only [Act.put, List.setIfInBounds_toArray, List.set_cons_zero, List.set_cons_succ])
        go_wp2_with fail
        exact HRR.out
      case true =>
        obtain ⟨q2, hq2⟩ : ∃ q, decide (cs = cs2) = q := ⟨_, rfl⟩
        have HQ2 := Lib.hid hq2
        clear hq2
        with_reducible refine wpList_step ?_
        intro K hK
        rw [if_pos (by rfl)]
        go_simp
        first | with_reducible refine hK _ _ ?_ | refine hK _ _ ?_
        clear hK K
        (try simp only [Act.put, List.setIfInBounds_toArray, List.set_cons_zero, List.set_cons_succ])
        with_reducible refine wpList_step ?_
        intro K hK
        rw [if_pos (by rfl)]
        go_simp
        first | with_reducible refine hK _ _ ?_ | refine hK _ _ ?_
        clear hK K
        (try simp only [Act.put, List.setIfInBounds_toArray, List.set_cons_zero, List.set_cons_succ])
        with_reducible refine wpList_step ?_
        intro K hK
        rw [if_pos (by rfl)]
        go_simp
        first | with_reducible refine hK _ _ ?_ | refine hK _ _ ?_
        clear hK K
        (try simp only [Act.put, List.setIfInBounds_toArray, List.set_cons_zero, List.set_cons_succ])
        with_reducible refine wpList_step ?_
        intro K hK
        rw [if_pos (by rfl)]
        go_simp
        first | with_reducible refine hK _ _ ?_ | refine hK _ _ ?_
        clear hK K
        (try simp only [Act.put, List.setIfInBounds_toArray, List.set_cons_zero, List.set_cons_succ])
        with_reducible refine wpList_step ?_
        intro K hK
        rw [if_pos (by rfl)]
        go_simp
        refine (Same_any _ _ cs cs2 w3 X5 X6).mono ?_; rintro e w4 ⟨rfl, b4⟩; rw [HQ2.out]
        first | with_reducible refine hK _ _ ?_ | refine hK _ _ ?_
        clear hK K
        (try simp only [Act.put, List.setIfInBounds_toArray, List.set_cons_zero, List.set_cons_succ])
        with_reducible refine wpList_plain rfl ?_
        intro K hK
        go_simp
        first | with_reducible refine hK _ _ ?_ | refine hK _ _ ?_
        clear hK K
        (try simp only [Act.put, List.setIfInBounds_toArray, List.set_cons_zero, List.set_cons_succ])
        with_reducible refine wpList_plain rfl ?_
        intro K hK
        go_simp
        first | with_reducible refine hK _ _ ?_ | refine hK _ _ ?_
        clear hK K
        (try simp only [Act.put, List.setIfInBounds_toArray, List.set_cons_zero, List.set_cons_succ])
        have hr := HR.out w4 q2 (by rw [HQ.out, HQ2.out]; simp) (B3.out.trans (b4.mono (by omega)))
        have HRR := Lib.hid hr
        clear hr
        go_wp2_with fail
        exact HRR.out
end Go.Proofs.Ytkngmnfgdlnddaa
