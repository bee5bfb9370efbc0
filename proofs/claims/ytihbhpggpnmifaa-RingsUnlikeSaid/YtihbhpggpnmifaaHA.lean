/-
  The walk of the document's Unlike. keptDigests writes over one block alone. RingsUnlike.
-/
import Derived.Test.YtihbhpggpnmifaaGZ
import Derived.Test.YtihbhpggpnmifaaGS
import Derived.Test.YtihbhpggpnmifaaGU
set_option linter.unusedSimpArgs false
set_option linter.unusedVariables false
namespace Go.Proofs.Ytihbhpggpnmifaa
open Go.RowKit Go.Lib Hw
set_option linter.unusedVariables false

set_option maxRecDepth 20000 in
set_option maxHeartbeats 16000000 in
theorem refUnlike_any (n : Int) (s i : Nat) (hd a b : Dg) (vp vq : Value) (p q : List Dg) (w : World) (R : UnRes) (hR : UnS n s hd i a b p q R) (hdl : Hid (hd.length = 32)) (hal : Hid (a.length = 32)) (hbl : Hid (b.length = 32))
    (hp : Hid (DRow w w.heap.size vp p)) (hq : Hid (DRow w w.heap.size vq q)) (hs : s < 18446744073709551616) (hi : i < 18446744073709551616) :
    Calls Try.prog 34 #[.int .i64 n, hv s hd, .int .u64 (i : Int), dv a, dv b, vp, vq] w fun e w' => e = .returned (.tuple #[.string R.1, .string R.2.1, .int .i64 (R.2.2 : Int)]) ∧ Below w.heap.size w w' := by
  obtain ⟨X, Y, E⟩ := R
  have HR := Lib.hid hR
  clear hR
  obtain ⟨N, hN⟩ : ∃ N, w.heap.size = N := ⟨_, rfl⟩
  rw [hN] at hp hq
  rw [hN]
  have HN := Lib.hid hN
  obtain ⟨Q, hQ⟩ : ∃ Q, (a == b) = Q := ⟨_, rfl⟩
  obtain ⟨H1, hH1⟩ : ∃ x, holdsB n s hd i a p = x := ⟨_, rfl⟩
  obtain ⟨H2, hH2⟩ : ∃ x, holdsB n s hd i b q = x := ⟨_, rfl⟩
  have hno : Hid ((!Q && H1 && H2) = false → (X, Y, E) = ((⟨#[]⟩, ⟨#[]⟩, 191) : UnRes)) := fun h => by
    rcases HR.out with ⟨_, e⟩ | ⟨e, _⟩
    · exact e
    · unfold unB at e
      rw [hQ, hH1, hH2, h] at e
      cases e
  have hyes : Hid ((!Q && H1 && H2) = true → ∃ (wd k : Nat) (xa xb ya yb : Dg), n = (wd : Int) ∧ UnY wd s i a b p q k xa xb ya yb ∧ (X, Y, E) = ((knotT wd xa xb, knotT wd ya yb, 0) : UnRes)) := fun h => by
    rcases HR.out with ⟨e, _⟩ | ⟨_, e⟩
    · unfold unB at e
      rw [hQ, hH1, hH2, h] at e
      cases e
    · exact e
  have HQ := Lib.hid hQ
  have HH1 := Lib.hid hH1
  have HH2 := Lib.hid hH2
  have hq0 := eqD a b hal.out hbl.out
  rw [hQ] at hq0
  have hqg := eqGuardD a b
  clear HR hN hQ hH1 hH2
  cases Q
  case true =>
    have hres := hno.out rfl
    simp only [Prod.mk.injEq] at hres
    obtain ⟨rfl, rfl, rfl⟩ := hres
    clear hno hyes HQ HH1 HH2
    go_enter Try.func34, Try.ntmps34
    go_upto_region 0 with fail
    with_reducible refine wp_region_list ?_
    refine wpList_boxB rfl _ _ rfl N HN.out (hcs s hd).toArray rfl ?_
    intro w0 e0 b0 z0
    (try simp only [Act.put, nA, nB, nC])
    refine wpList_boxD rfl _ rfl a rfl (N + 1) z0 ?_
    intro w1 e1 b1 z1
    (try simp only [Act.put, nA, nB, nC])
    refine wpList_boxD rfl _ rfl b rfl (N + 2) z1 ?_
    intro w2 e2 b2 z2
    (try simp only [Act.put, nA, nB, nC])
    with_reducible refine wpList_plain rfl ?_
    intro K hK
    go_simp
    first | with_reducible refine hK _ _ ?_ | refine hK _ _ ?_
    clear hK K
    (try simp only [Act.put, nA, nB, nC])
    with_reducible refine wpList_plain rfl ?_
    intro K hK
    go_simp
    first | with_reducible refine hK _ _ ?_ | refine hK _ _ ?_
    clear hK K
    (try simp only [Act.put, nA, nB, nC])
    with_reducible refine wpList_plain rfl ?_
    intro K hK
    go_simp
    first | with_reducible refine hK _ _ ?_ | refine hK _ _ ?_
    clear hK K
    (try simp only [Act.put, nA, nB, nC])
    have F : Hid (UB w w2 N s hd a b) := ⟨heap_below (heap_below e0 b1 (by omega)) b2 (by omega), heap_below e1 b2 (by omega), e2, (b0.trans (b1.mono (by omega))).trans (b2.mono (by omega))⟩
    clear e0 b0 z0 e1 b1 z1 e2 b2 z2
    have P2 := hp.out.low F.out.bl (by rw [HN.out]; exact Nat.le_refl _)
    have hbig := F.out.big
    have DP : Hid (DRow w2 w2.heap.size vp p) := Lib.hid (P2.mono (lim' := w2.heap.size) (by omega))
    clear P2
    go_upto_region 1 with fail
    with_reducible refine wp_region_list ?_
    refine wpList_loadD rfl _ rfl (N + 1) rfl a hal.out F.out.ba ?_
    (try simp only [Act.put, nA, nB, nC])
    refine wpList_loadD rfl _ rfl (N + 2) rfl b hbl.out F.out.bb ?_
    (try simp only [Act.put, nA, nB, nC])
    with_reducible refine wpList_plain rfl ?_
    intro K hK
    go_simp
    first | with_reducible refine hK _ _ ?_ | refine hK _ _ ?_
    clear hK K
    (try simp only [Act.put, nA, nB, nC])
    with_reducible refine wpList_plain rfl ?_
    intro K hK
    go_simp
    first | with_reducible refine hK _ _ ?_ | refine hK _ _ ?_
    clear hK K
    (try simp only [Act.put, nA, nB, nC])
    clear hq0 hqg
    with_reducible refine wpList_step ?_
    intro K hK
    rw [if_neg (Bool.eq_false_iff.1 (by rfl))]
    first | with_reducible refine hK _ _ ?_ | refine hK _ _ ?_
    clear hK K
    (try simp only [Act.put, nA, nB, nC])
    with_reducible refine wpList_step ?_
    intro K hK
    rw [if_neg (Bool.eq_false_iff.1 (by rfl))]
    first | with_reducible refine hK _ _ ?_ | refine hK _ _ ?_
    clear hK K
    (try simp only [Act.put, nA, nB, nC])
    with_reducible refine wpList_step ?_
    intro K hK
    rw [if_neg (Bool.eq_false_iff.1 (by rfl))]
    first | with_reducible refine hK _ _ ?_ | refine hK _ _ ?_
    clear hK K
    (try simp only [Act.put, nA, nB, nC])
    with_reducible refine wpList_step ?_
    intro K hK
    rw [if_neg (Bool.eq_false_iff.1 (by rfl))]
    first | with_reducible refine hK _ _ ?_ | refine hK _ _ ?_
    clear hK K
    (try simp only [Act.put, nA, nB, nC])
    with_reducible refine wpList_step ?_
    intro K hK
    rw [if_neg (Bool.eq_false_iff.1 (by rfl))]
    first | with_reducible refine hK _ _ ?_ | refine hK _ _ ?_
    clear hK K
    (try simp only [Act.put, nA, nB, nC])
    with_reducible refine wpList_step ?_
    intro K hK
    rw [if_neg (Bool.eq_false_iff.1 (by rfl))]
    first | with_reducible refine hK _ _ ?_ | refine hK _ _ ?_
    clear hK K
    (try simp only [Act.put, nA, nB, nC])
    with_reducible refine wpList_step ?_
    intro K hK
    rw [if_neg (Bool.eq_false_iff.1 (by rfl))]
    first | with_reducible refine hK _ _ ?_ | refine hK _ _ ?_
    clear hK K
    (try simp only [Act.put, nA, nB, nC])
    with_reducible refine wpList_plain rfl ?_
    intro K hK
    go_simp
    first | with_reducible refine hK _ _ ?_ | refine hK _ _ ?_
    clear hK K
    (try simp only [Act.put, nA, nB, nC])
    with_reducible refine wpList_plain rfl ?_
    intro K hK
    go_simp
    first | with_reducible refine hK _ _ ?_ | refine hK _ _ ?_
    clear hK K
    (try simp only [Act.put, nA, nB, nC])
    with_reducible refine wpList_step ?_
    intro K hK
    rw [if_neg (Bool.eq_false_iff.1 (by rfl))]
    first | with_reducible refine hK _ _ ?_ | refine hK _ _ ?_
    clear hK K
    (try simp only [Act.put, nA, nB, nC])
    with_reducible refine wpList_step ?_
    intro K hK
    rw [if_neg (Bool.eq_false_iff.1 (by rfl))]
    first | with_reducible refine hK _ _ ?_ | refine hK _ _ ?_
    clear hK K
    (try simp only [Act.put, nA, nB, nC])
    with_reducible refine wpList_step ?_
    intro K hK
    rw [if_neg (Bool.eq_false_iff.1 (by rfl))]
    first | with_reducible refine hK _ _ ?_ | refine hK _ _ ?_
    clear hK K
    (try simp only [Act.put, nA, nB, nC])
    with_reducible refine wpList_step ?_
    intro K hK
    rw [if_neg (Bool.eq_false_iff.1 (by rfl))]
    first | with_reducible refine hK _ _ ?_ | refine hK _ _ ?_
    clear hK K
    (try simp only [Act.put, nA, nB, nC])
    with_reducible refine wpList_step ?_
    intro K hK
    rw [if_neg (Bool.eq_false_iff.1 (by rfl))]
    first | with_reducible refine hK _ _ ?_ | refine hK _ _ ?_
    clear hK K
    (try simp only [Act.put, nA, nB, nC])
    with_reducible refine wpList_step ?_
    intro K hK
    rw [if_neg (Bool.eq_false_iff.1 (by rfl))]
    first | with_reducible refine hK _ _ ?_ | refine hK _ _ ?_
    clear hK K
    (try simp only [Act.put, nA, nB, nC])
    with_reducible refine wpList_step ?_
    intro K hK
    rw [if_neg (Bool.eq_false_iff.1 (by rfl))]
    first | with_reducible refine hK _ _ ?_ | refine hK _ _ ?_
    clear hK K
    (try simp only [Act.put, nA, nB, nC])
    with_reducible refine wpList_plain rfl ?_
    intro K hK
    go_simp
    first | with_reducible refine hK _ _ ?_ | refine hK _ _ ?_
    clear hK K
    (try simp only [Act.put, nA, nB, nC])
    go_wp2_with fail
    go_ret3
    exact ⟨rfl, F.out.bl⟩
  case false =>
    cases H1
    case false =>
      have hres := hno.out rfl
      simp only [Prod.mk.injEq] at hres
      obtain ⟨rfl, rfl, rfl⟩ := hres
      clear hno hyes HQ HH2
      go_enter Try.func34, Try.ntmps34
      go_upto_region 0 with fail
      with_reducible refine wp_region_list ?_
      refine wpList_boxB rfl _ _ rfl N HN.out (hcs s hd).toArray rfl ?_
      intro w0 e0 b0 z0
      (try simp only [Act.put, nA, nB, nC])
      refine wpList_boxD rfl _ rfl a rfl (N + 1) z0 ?_
      intro w1 e1 b1 z1
      (try simp only [Act.put, nA, nB, nC])
      refine wpList_boxD rfl _ rfl b rfl (N + 2) z1 ?_
      intro w2 e2 b2 z2
      (try simp only [Act.put, nA, nB, nC])
      with_reducible refine wpList_plain rfl ?_
      intro K hK
      go_simp
      first | with_reducible refine hK _ _ ?_ | refine hK _ _ ?_
      clear hK K
      (try simp only [Act.put, nA, nB, nC])
      with_reducible refine wpList_plain rfl ?_
      intro K hK
      go_simp
      first | with_reducible refine hK _ _ ?_ | refine hK _ _ ?_
      clear hK K
      (try simp only [Act.put, nA, nB, nC])
      with_reducible refine wpList_plain rfl ?_
      intro K hK
      go_simp
      first | with_reducible refine hK _ _ ?_ | refine hK _ _ ?_
      clear hK K
      (try simp only [Act.put, nA, nB, nC])
      have F : Hid (UB w w2 N s hd a b) := ⟨heap_below (heap_below e0 b1 (by omega)) b2 (by omega), heap_below e1 b2 (by omega), e2, (b0.trans (b1.mono (by omega))).trans (b2.mono (by omega))⟩
      clear e0 b0 z0 e1 b1 z1 e2 b2 z2
      have P2 := hp.out.low F.out.bl (by rw [HN.out]; exact Nat.le_refl _)
      have hbig := F.out.big
      have DP : Hid (DRow w2 w2.heap.size vp p) := Lib.hid (P2.mono (lim' := w2.heap.size) (by omega))
      clear P2
      go_upto_region 1 with fail
      with_reducible refine wp_region_list ?_
      refine wpList_loadD rfl _ rfl (N + 1) rfl a hal.out F.out.ba ?_
      (try simp only [Act.put, nA, nB, nC])
      refine wpList_loadD rfl _ rfl (N + 2) rfl b hbl.out F.out.bb ?_
      (try simp only [Act.put, nA, nB, nC])
      with_reducible refine wpList_plain rfl ?_
      intro K hK
      go_simp
      first | with_reducible refine hK _ _ ?_ | refine hK _ _ ?_
      clear hK K
      (try simp only [Act.put, nA, nB, nC])
      with_reducible refine wpList_plain rfl ?_
      intro K hK
      go_simp
      first | with_reducible refine hK _ _ ?_ | refine hK _ _ ?_
      clear hK K
      (try simp only [Act.put, nA, nB, nC])
      clear hq0 hqg
      with_reducible refine wpList_step ?_
      intro K hK
      rw [if_pos (by rfl)]
      go_simp
      first | with_reducible refine hK _ _ ?_ | refine hK _ _ ?_
      clear hK K
      (try simp only [Act.put, nA, nB, nC])
      set_option maxRecDepth 20000 in
      refine wpList_loadHG rfl _ rfl N rfl s hd hdl.out F.out.bh ?_
      (try simp only [Act.put, nA, nB, nC])
      with_reducible refine wpList_step ?_
      intro K hK
      rw [if_pos (by rfl)]
      go_simp
      first | with_reducible refine hK _ _ ?_ | refine hK _ _ ?_
      clear hK K
      (try simp only [Act.put, nA, nB, nC])
      set_option maxRecDepth 20000 in
      refine wpList_loadDg rfl _ rfl (N + 1) rfl a hal.out F.out.ba ?_
      (try simp only [Act.put, nA, nB, nC])
      with_reducible refine wpList_step ?_
      intro K hK
      rw [if_pos (by rfl)]
      go_simp
      first | with_reducible refine hK _ _ ?_ | refine hK _ _ ?_
      clear hK K
      (try simp only [Act.put, nA, nB, nC])
      with_reducible refine wpList_step ?_
      intro K hK
      rw [if_pos (by rfl)]
      go_simp
      refine (refHolds_any _ s i hd a _ p w2 hdl hal DP hs hi).mono ?_; rintro e w3 ⟨rfl, hb3⟩; rw [HH1.out]
      first | with_reducible refine hK _ _ ?_ | refine hK _ _ ?_
      clear hK K
      (try simp only [Act.put, nA, nB, nC])
      have F3 := Lib.hid (F.out.low hb3 hbig)
      clear hb3 DP F
      with_reducible refine wpList_step ?_
      intro K hK
      rw [if_pos (by rfl)]
      go_simp
      first | with_reducible refine hK _ _ ?_ | refine hK _ _ ?_
      clear hK K
      (try simp only [Act.put, nA, nB, nC])
      with_reducible refine wpList_plain rfl ?_
      intro K hK
      go_simp
      first | with_reducible refine hK _ _ ?_ | refine hK _ _ ?_
      clear hK K
      (try simp only [Act.put, nA, nB, nC])
      with_reducible refine wpList_plain rfl ?_
      intro K hK
      go_simp
      first | with_reducible refine hK _ _ ?_ | refine hK _ _ ?_
      clear hK K
      (try simp only [Act.put, nA, nB, nC])
      with_reducible refine wpList_step ?_
      intro K hK
      rw [if_neg (Bool.eq_false_iff.1 (by rfl))]
      first | with_reducible refine hK _ _ ?_ | refine hK _ _ ?_
      clear hK K
      (try simp only [Act.put, nA, nB, nC])
      with_reducible refine wpList_step ?_
      intro K hK
      rw [if_neg (Bool.eq_false_iff.1 (by rfl))]
      first | with_reducible refine hK _ _ ?_ | refine hK _ _ ?_
      clear hK K
      (try simp only [Act.put, nA, nB, nC])
      with_reducible refine wpList_step ?_
      intro K hK
      rw [if_neg (Bool.eq_false_iff.1 (by rfl))]
      first | with_reducible refine hK _ _ ?_ | refine hK _ _ ?_
      clear hK K
      (try simp only [Act.put, nA, nB, nC])
      with_reducible refine wpList_step ?_
      intro K hK
      rw [if_neg (Bool.eq_false_iff.1 (by rfl))]
      first | with_reducible refine hK _ _ ?_ | refine hK _ _ ?_
      clear hK K
      (try simp only [Act.put, nA, nB, nC])
      with_reducible refine wpList_step ?_
      intro K hK
      rw [if_neg (Bool.eq_false_iff.1 (by rfl))]
      first | with_reducible refine hK _ _ ?_ | refine hK _ _ ?_
      clear hK K
      (try simp only [Act.put, nA, nB, nC])
      with_reducible refine wpList_step ?_
      intro K hK
      rw [if_neg (Bool.eq_false_iff.1 (by rfl))]
      first | with_reducible refine hK _ _ ?_ | refine hK _ _ ?_
      clear hK K
      (try simp only [Act.put, nA, nB, nC])
      with_reducible refine wpList_step ?_
      intro K hK
      rw [if_neg (Bool.eq_false_iff.1 (by rfl))]
      first | with_reducible refine hK _ _ ?_ | refine hK _ _ ?_
      clear hK K
      (try simp only [Act.put, nA, nB, nC])
      with_reducible refine wpList_plain rfl ?_
      intro K hK
      go_simp
      first | with_reducible refine hK _ _ ?_ | refine hK _ _ ?_
      clear hK K
      (try simp only [Act.put, nA, nB, nC])
      go_wp2_with fail
      go_ret3
      exact ⟨rfl, F3.out.bl⟩
    case true =>
      cases H2
      case false =>
        have hres := hno.out rfl
        simp only [Prod.mk.injEq] at hres
        obtain ⟨rfl, rfl, rfl⟩ := hres
        clear hno hyes HQ
        go_enter Try.func34, Try.ntmps34
        go_upto_region 0 with fail
        with_reducible refine wp_region_list ?_
        refine wpList_boxB rfl _ _ rfl N HN.out (hcs s hd).toArray rfl ?_
        intro w0 e0 b0 z0
        (try simp only [Act.put, nA, nB, nC])
        refine wpList_boxD rfl _ rfl a rfl (N + 1) z0 ?_
        intro w1 e1 b1 z1
        (try simp only [Act.put, nA, nB, nC])
        refine wpList_boxD rfl _ rfl b rfl (N + 2) z1 ?_
        intro w2 e2 b2 z2
        (try simp only [Act.put, nA, nB, nC])
        with_reducible refine wpList_plain rfl ?_
        intro K hK
        go_simp
        first | with_reducible refine hK _ _ ?_ | refine hK _ _ ?_
        clear hK K
        (try simp only [Act.put, nA, nB, nC])
        with_reducible refine wpList_plain rfl ?_
        intro K hK
        go_simp
        first | with_reducible refine hK _ _ ?_ | refine hK _ _ ?_
        clear hK K
        (try simp only [Act.put, nA, nB, nC])
        with_reducible refine wpList_plain rfl ?_
        intro K hK
        go_simp
        first | with_reducible refine hK _ _ ?_ | refine hK _ _ ?_
        clear hK K
        (try simp only [Act.put, nA, nB, nC])
        have F : Hid (UB w w2 N s hd a b) := ⟨heap_below (heap_below e0 b1 (by omega)) b2 (by omega), heap_below e1 b2 (by omega), e2, (b0.trans (b1.mono (by omega))).trans (b2.mono (by omega))⟩
        clear e0 b0 z0 e1 b1 z1 e2 b2 z2
        have P2 := hp.out.low F.out.bl (by rw [HN.out]; exact Nat.le_refl _)
        have hbig := F.out.big
        have DP : Hid (DRow w2 w2.heap.size vp p) := Lib.hid (P2.mono (lim' := w2.heap.size) (by omega))
        clear P2
        go_upto_region 1 with fail
        with_reducible refine wp_region_list ?_
        refine wpList_loadD rfl _ rfl (N + 1) rfl a hal.out F.out.ba ?_
        (try simp only [Act.put, nA, nB, nC])
        refine wpList_loadD rfl _ rfl (N + 2) rfl b hbl.out F.out.bb ?_
        (try simp only [Act.put, nA, nB, nC])
        with_reducible refine wpList_plain rfl ?_
        intro K hK
        go_simp
        first | with_reducible refine hK _ _ ?_ | refine hK _ _ ?_
        clear hK K
        (try simp only [Act.put, nA, nB, nC])
        with_reducible refine wpList_plain rfl ?_
        intro K hK
        go_simp
        first | with_reducible refine hK _ _ ?_ | refine hK _ _ ?_
        clear hK K
        (try simp only [Act.put, nA, nB, nC])
        clear hq0 hqg
        with_reducible refine wpList_step ?_
        intro K hK
        rw [if_pos (by rfl)]
        go_simp
        first | with_reducible refine hK _ _ ?_ | refine hK _ _ ?_
        clear hK K
        (try simp only [Act.put, nA, nB, nC])
        set_option maxRecDepth 20000 in
        refine wpList_loadHG rfl _ rfl N rfl s hd hdl.out F.out.bh ?_
        (try simp only [Act.put, nA, nB, nC])
        with_reducible refine wpList_step ?_
        intro K hK
        rw [if_pos (by rfl)]
        go_simp
        first | with_reducible refine hK _ _ ?_ | refine hK _ _ ?_
        clear hK K
        (try simp only [Act.put, nA, nB, nC])
        set_option maxRecDepth 20000 in
        refine wpList_loadDg rfl _ rfl (N + 1) rfl a hal.out F.out.ba ?_
        (try simp only [Act.put, nA, nB, nC])
        with_reducible refine wpList_step ?_
        intro K hK
        rw [if_pos (by rfl)]
        go_simp
        first | with_reducible refine hK _ _ ?_ | refine hK _ _ ?_
        clear hK K
        (try simp only [Act.put, nA, nB, nC])
        with_reducible refine wpList_step ?_
        intro K hK
        rw [if_pos (by rfl)]
        go_simp
        refine (refHolds_any _ s i hd a _ p w2 hdl hal DP hs hi).mono ?_; rintro e w3 ⟨rfl, hb3⟩; rw [HH1.out]
        first | with_reducible refine hK _ _ ?_ | refine hK _ _ ?_
        clear hK K
        (try simp only [Act.put, nA, nB, nC])
        have F3 := Lib.hid (F.out.low hb3 hbig)
        clear hb3 DP F
        with_reducible refine wpList_step ?_
        intro K hK
        rw [if_pos (by rfl)]
        go_simp
        first | with_reducible refine hK _ _ ?_ | refine hK _ _ ?_
        clear hK K
        (try simp only [Act.put, nA, nB, nC])
        with_reducible refine wpList_plain rfl ?_
        intro K hK
        go_simp
        first | with_reducible refine hK _ _ ?_ | refine hK _ _ ?_
        clear hK K
        (try simp only [Act.put, nA, nB, nC])
        with_reducible refine wpList_plain rfl ?_
        intro K hK
        go_simp
        first | with_reducible refine hK _ _ ?_ | refine hK _ _ ?_
        clear hK K
        (try simp only [Act.put, nA, nB, nC])
        have hbig3 := F3.out.big
        have DQ : Hid (DRow w3 w3.heap.size vq q) := Lib.hid ((hq.out.low F3.out.bl (by rw [HN.out]; exact Nat.le_refl _)).mono (lim' := w3.heap.size) (by omega))
        with_reducible refine wpList_step ?_
        intro K hK
        rw [if_pos (by rfl)]
        go_simp
        first | with_reducible refine hK _ _ ?_ | refine hK _ _ ?_
        clear hK K
        (try simp only [Act.put, nA, nB, nC])
        set_option maxRecDepth 20000 in
        refine wpList_loadHG rfl _ rfl N rfl s hd hdl.out F3.out.bh ?_
        (try simp only [Act.put, nA, nB, nC])
        with_reducible refine wpList_step ?_
        intro K hK
        rw [if_pos (by rfl)]
        go_simp
        first | with_reducible refine hK _ _ ?_ | refine hK _ _ ?_
        clear hK K
        (try simp only [Act.put, nA, nB, nC])
        set_option maxRecDepth 20000 in
        refine wpList_loadDg rfl _ rfl (N + 2) rfl b hbl.out F3.out.bb ?_
        (try simp only [Act.put, nA, nB, nC])
        with_reducible refine wpList_step ?_
        intro K hK
        rw [if_pos (by rfl)]
        go_simp
        first | with_reducible refine hK _ _ ?_ | refine hK _ _ ?_
        clear hK K
        (try simp only [Act.put, nA, nB, nC])
        with_reducible refine wpList_step ?_
        intro K hK
        rw [if_pos (by rfl)]
        go_simp
        refine (refHolds_any _ s i hd b _ q w3 hdl hbl DQ hs hi).mono ?_; rintro e w4 ⟨rfl, hb4⟩; rw [HH2.out]
        first | with_reducible refine hK _ _ ?_ | refine hK _ _ ?_
        clear hK K
        (try simp only [Act.put, nA, nB, nC])
        have F4 := Lib.hid (F3.out.low hb4 hbig3)
        clear hb4 DQ F3
        with_reducible refine wpList_step ?_
        intro K hK
        rw [if_pos (by rfl)]
        go_simp
        first | with_reducible refine hK _ _ ?_ | refine hK _ _ ?_
        clear hK K
        (try simp only [Act.put, nA, nB, nC])
        with_reducible refine wpList_plain rfl ?_
        intro K hK
        go_simp
        first | with_reducible refine hK _ _ ?_ | refine hK _ _ ?_
        clear hK K
        (try simp only [Act.put, nA, nB, nC])
        go_wp2_with fail
        go_ret3
        exact ⟨rfl, F4.out.bl⟩
      case true =>
        obtain ⟨wd, k, xa, xb, ya, yb, rfl, hy, hres⟩ := hyes.out rfl
        simp only [Prod.mk.injEq] at hres
        obtain ⟨rfl, rfl, rfl⟩ := hres
        clear hno hyes HQ
        have hok1 := rclimb_yes wd a s i p hy.ok1
        have hok2 := rclimb_yes wd b s i q hy.ok2
        have hsh1 := rclimb_shape wd a hal.out s i p hp.out.1
        have hsh2 := rclimb_shape wd b hbl.out s i q hq.out.1
        have hlen := rclimb_len wd a b s i p q hy.ok1 hy.ok2
        have hne := hy.ne
        have he1 := hy.e1
        have he2 := hy.e2
        have htl := hy.tail
        have hk1 := hy.ok1
        have hk2 := hy.ok2
        have hw1 := hy.w1
        have hw2 := hy.w2
        have his := hy.his
        have hss := hy.hs
        obtain ⟨K1, hK1⟩ : ∃ x, knotT wd xa xb = x := ⟨_, rfl⟩
        obtain ⟨K2, hK2⟩ : ∃ x, knotT wd ya yb = x := ⟨_, rfl⟩
        rw [hK1, hK2]
        have HKt1 := Lib.hid hK1
        have HKt2 := Lib.hid hK2
        clear hK1 hK2
        obtain ⟨⟨D1, XS, t1⟩, hX⟩ : ∃ r, rclimb wd a i s p = r := ⟨_, rfl⟩
        obtain ⟨⟨D2, YS, t2⟩, hY⟩ : ∃ r, rclimb wd b i s q = r := ⟨_, rfl⟩
        rw [hX] at hok1 hsh1 hlen he1 htl hk1
        rw [hY] at hok2 hsh2 hlen he2 htl hk2
        dsimp only at hok1 hok2 hsh1 hsh2 hlen he1 he2 htl hk1 hk2
        subst hk1
        subst hk2
        obtain ⟨M, hM⟩ : ∃ M, XS.length = M := ⟨_, rfl⟩
        have hkM : k < M := by rw [← hM]; exact (List.getElem?_eq_some_iff.1 he1).1
        have hM2 : YS.length = M := by rw [← hlen, hM]
        have hMs : M ≤ 1048576 := by have := hsh1.2.2; omega
        have hX0 : 0 < XS.length := by omega
        have hY0 : 0 < YS.length := by omega
        have HX := Lib.hid hX
        have HY := Lib.hid hY
        have HOk1 := Lib.hid hok1
        have HOk2 := Lib.hid hok2
        have HD1 : Hid (List.length D1 = 32) := hsh1.1
        have HD2 : Hid (List.length D2 = 32) := hsh2.1
        have HA1 : Hid (All64 XS) := hsh1.2.1
        have HA2 : Hid (All64 YS) := hsh2.2.1
        have HNe := Lib.hid hne
        have HE1 := Lib.hid he1
        have HE2 := Lib.hid he2
        have HTl := Lib.hid htl
        have HM1 := Lib.hid hM
        have HM2 := Lib.hid hM2
        have HX0 := Lib.hid hX0
        have HY0 := Lib.hid hY0
        have wi := IntWalk.i64_in (i : Int) (by omega)
        have wss := IntWalk.i64_in (s : Int) (by omega)
        clear hok1 hok2 hsh1 hsh2 hlen hne he1 he2 htl hX hY hM hM2 hy hX0 hY0
        go_enter Try.func34, Try.ntmps34
        go_upto_region 0 with fail
        with_reducible refine wp_region_list ?_
        refine wpList_boxB rfl _ _ rfl N HN.out (hcs s hd).toArray rfl ?_
        intro w0 e0 b0 z0
        (try simp only [Act.put, nA, nB, nC])
        refine wpList_boxD rfl _ rfl a rfl (N + 1) z0 ?_
        intro w1 e1 b1 z1
        (try simp only [Act.put, nA, nB, nC])
        refine wpList_boxD rfl _ rfl b rfl (N + 2) z1 ?_
        intro w2 e2 b2 z2
        (try simp only [Act.put, nA, nB, nC])
        with_reducible refine wpList_plain rfl ?_
        intro K hK
        go_simp
        first | with_reducible refine hK _ _ ?_ | refine hK _ _ ?_
        clear hK K
        (try simp only [Act.put, nA, nB, nC])
        with_reducible refine wpList_plain rfl ?_
        intro K hK
        go_simp
        first | with_reducible refine hK _ _ ?_ | refine hK _ _ ?_
        clear hK K
        (try simp only [Act.put, nA, nB, nC])
        with_reducible refine wpList_plain rfl ?_
        intro K hK
        go_simp
        first | with_reducible refine hK _ _ ?_ | refine hK _ _ ?_
        clear hK K
        (try simp only [Act.put, nA, nB, nC])
        have F : Hid (UB w w2 N s hd a b) := ⟨heap_below (heap_below e0 b1 (by omega)) b2 (by omega), heap_below e1 b2 (by omega), e2, (b0.trans (b1.mono (by omega))).trans (b2.mono (by omega))⟩
        clear e0 b0 z0 e1 b1 z1 e2 b2 z2
        have P2 := hp.out.low F.out.bl (by rw [HN.out]; exact Nat.le_refl _)
        have hbig := F.out.big
        have DP : Hid (DRow w2 w2.heap.size vp p) := Lib.hid (P2.mono (lim' := w2.heap.size) (by omega))
        clear P2
        go_upto_region 1 with fail
        with_reducible refine wp_region_list ?_
        refine wpList_loadD rfl _ rfl (N + 1) rfl a hal.out F.out.ba ?_
        (try simp only [Act.put, nA, nB, nC])
        refine wpList_loadD rfl _ rfl (N + 2) rfl b hbl.out F.out.bb ?_
        (try simp only [Act.put, nA, nB, nC])
        with_reducible refine wpList_plain rfl ?_
        intro K hK
        go_simp
        first | with_reducible refine hK _ _ ?_ | refine hK _ _ ?_
        clear hK K
        (try simp only [Act.put, nA, nB, nC])
        with_reducible refine wpList_plain rfl ?_
        intro K hK
        go_simp
        first | with_reducible refine hK _ _ ?_ | refine hK _ _ ?_
        clear hK K
        (try simp only [Act.put, nA, nB, nC])
        clear hq0 hqg
        with_reducible refine wpList_step ?_
        intro K hK
        rw [if_pos (by rfl)]
        go_simp
        first | with_reducible refine hK _ _ ?_ | refine hK _ _ ?_
        clear hK K
        (try simp only [Act.put, nA, nB, nC])
        set_option maxRecDepth 20000 in
        refine wpList_loadHG rfl _ rfl N rfl s hd hdl.out F.out.bh ?_
        (try simp only [Act.put, nA, nB, nC])
        with_reducible refine wpList_step ?_
        intro K hK
        rw [if_pos (by rfl)]
        go_simp
        first | with_reducible refine hK _ _ ?_ | refine hK _ _ ?_
        clear hK K
        (try simp only [Act.put, nA, nB, nC])
        set_option maxRecDepth 20000 in
        refine wpList_loadDg rfl _ rfl (N + 1) rfl a hal.out F.out.ba ?_
        (try simp only [Act.put, nA, nB, nC])
        with_reducible refine wpList_step ?_
        intro K hK
        rw [if_pos (by rfl)]
        go_simp
        first | with_reducible refine hK _ _ ?_ | refine hK _ _ ?_
        clear hK K
        (try simp only [Act.put, nA, nB, nC])
        with_reducible refine wpList_step ?_
        intro K hK
        rw [if_pos (by rfl)]
        go_simp
        refine (refHolds_any _ s i hd a _ p w2 hdl hal DP hs hi).mono ?_; rintro e w3 ⟨rfl, hb3⟩; rw [HH1.out]
        first | with_reducible refine hK _ _ ?_ | refine hK _ _ ?_
        clear hK K
        (try simp only [Act.put, nA, nB, nC])
        have F3 := Lib.hid (F.out.low hb3 hbig)
        clear hb3 DP F
        with_reducible refine wpList_step ?_
        intro K hK
        rw [if_pos (by rfl)]
        go_simp
        first | with_reducible refine hK _ _ ?_ | refine hK _ _ ?_
        clear hK K
        (try simp only [Act.put, nA, nB, nC])
        with_reducible refine wpList_plain rfl ?_
        intro K hK
        go_simp
        first | with_reducible refine hK _ _ ?_ | refine hK _ _ ?_
        clear hK K
        (try simp only [Act.put, nA, nB, nC])
        with_reducible refine wpList_plain rfl ?_
        intro K hK
        go_simp
        first | with_reducible refine hK _ _ ?_ | refine hK _ _ ?_
        clear hK K
        (try simp only [Act.put, nA, nB, nC])
        have hbig3 := F3.out.big
        have DQ : Hid (DRow w3 w3.heap.size vq q) := Lib.hid ((hq.out.low F3.out.bl (by rw [HN.out]; exact Nat.le_refl _)).mono (lim' := w3.heap.size) (by omega))
        with_reducible refine wpList_step ?_
        intro K hK
        rw [if_pos (by rfl)]
        go_simp
        first | with_reducible refine hK _ _ ?_ | refine hK _ _ ?_
        clear hK K
        (try simp only [Act.put, nA, nB, nC])
        set_option maxRecDepth 20000 in
        refine wpList_loadHG rfl _ rfl N rfl s hd hdl.out F3.out.bh ?_
        (try simp only [Act.put, nA, nB, nC])
        with_reducible refine wpList_step ?_
        intro K hK
        rw [if_pos (by rfl)]
        go_simp
        first | with_reducible refine hK _ _ ?_ | refine hK _ _ ?_
        clear hK K
        (try simp only [Act.put, nA, nB, nC])
        set_option maxRecDepth 20000 in
        refine wpList_loadDg rfl _ rfl (N + 2) rfl b hbl.out F3.out.bb ?_
        (try simp only [Act.put, nA, nB, nC])
        with_reducible refine wpList_step ?_
        intro K hK
        rw [if_pos (by rfl)]
        go_simp
        first | with_reducible refine hK _ _ ?_ | refine hK _ _ ?_
        clear hK K
        (try simp only [Act.put, nA, nB, nC])
        with_reducible refine wpList_step ?_
        intro K hK
        rw [if_pos (by rfl)]
        go_simp
        refine (refHolds_any _ s i hd b _ q w3 hdl hbl DQ hs hi).mono ?_; rintro e w4 ⟨rfl, hb4⟩; rw [HH2.out]
        first | with_reducible refine hK _ _ ?_ | refine hK _ _ ?_
        clear hK K
        (try simp only [Act.put, nA, nB, nC])
        have F4 := Lib.hid (F3.out.low hb4 hbig3)
        clear hb4 DQ F3
        with_reducible refine wpList_step ?_
        intro K hK
        rw [if_pos (by rfl)]
        go_simp
        first | with_reducible refine hK _ _ ?_ | refine hK _ _ ?_
        clear hK K
        (try simp only [Act.put, nA, nB, nC])
        with_reducible refine wpList_plain rfl ?_
        intro K hK
        go_simp
        first | with_reducible refine hK _ _ ?_ | refine hK _ _ ?_
        clear hK K
        (try simp only [Act.put, nA, nB, nC])
        have hbig4 := F4.out.big
        have c4 := F4.out.c0
        have dp4 : Hid (DRow w4 w4.heap.size vp p) := Lib.hid ((hp.out.low F4.out.bl (by rw [HN.out]; exact Nat.le_refl _)).mono (lim' := w4.heap.size) (by omega))
        go_upto_region 3 with fail
        with_reducible refine wp_region_list ?_
        with_reducible refine wpList_plain rfl ?_
        intro K hK
        go_simp
        first | with_reducible refine hK _ _ ?_ | refine hK _ _ ?_
        clear hK K
        (try simp only [Act.put, nA, nB, nC])
        with_reducible refine wpList_plain rfl ?_
        intro K hK
        go_simp
        first | with_reducible refine hK _ _ ?_ | refine hK _ _ ?_
        clear hK K
        (try simp only [Act.put, nA, nB, nC])
        with_reducible refine wpList_plain rfl ?_
        intro K hK
        go_simp
        first | with_reducible refine hK _ _ ?_ | refine hK _ _ ?_
        clear hK K
        (try simp only [Act.put, nA, nB, nC])
        with_reducible refine wpList_plain rfl ?_
        intro K hK
        go_simp
        first | with_reducible refine hK _ _ ?_ | refine hK _ _ ?_
        clear hK K
        (try simp only [Act.put, nA, nB, nC])
        with_reducible refine wpList_plain rfl ?_
        intro K hK
        go_simp
        first | with_reducible refine hK _ _ ?_ | refine hK _ _ ?_
        clear hK K
        (try simp only [Act.put, nA, nB, nC])
        with_reducible refine wpList_plain rfl ?_
        intro K hK
        go_simp
        first | with_reducible refine hK _ _ ?_ | refine hK _ _ ?_
        clear hK K
        (try simp only [Act.put, nA, nB, nC])
        refine wpList_loadD rfl _ rfl (N + 1) rfl a hal.out F4.out.ba ?_
        (try simp only [Act.put, nA, nB, nC])
        with_reducible refine wpList_plain rfl ?_
        intro K hK
        go_simp
        first | with_reducible refine hK _ _ ?_ | refine hK _ _ ?_
        clear hK K
        (try simp only [Act.put, nA, nB, nC])
        with_reducible refine wpList_plain rfl ?_
        intro K hK
        go_simp
        refine (rClimb_any wd hw1 hw2 a hal s i _ p w4 dp4 his hss).mono ?_; rintro e w5 ⟨sv, rfl, o5, b5⟩
        first | with_reducible refine hK _ _ ?_ | refine hK _ _ ?_
        clear hK K
        (try simp only [Act.put, nA, nB, nC])
        rw [HX.out] at o5 ⊢
        obtain ⟨g1, c1, rfl⟩ := row64_form o5 HX0.out
        have F5 := Lib.hid (F4.out.low b5 hbig4)
        have O5 := Lib.hid o5
        clear o5 b5 dp4 c4 F4
        with_reducible refine wpList_plain rfl ?_
        intro K hK
        go_simp
        first | with_reducible refine hK _ _ ?_ | refine hK _ _ ?_
        clear hK K
        (try simp only [Act.put, nA, nB, nC])
        with_reducible refine wpList_plain rfl ?_
        intro K hK
        go_simp
        first | with_reducible refine hK _ _ ?_ | refine hK _ _ ?_
        clear hK K
        (try simp only [Act.put, nA, nB, nC])
        with_reducible refine wpList_plain rfl ?_
        intro K hK
        go_simp
        first | with_reducible refine hK _ _ ?_ | refine hK _ _ ?_
        clear hK K
        (try simp only [Act.put, nA, nB, nC])
        with_reducible refine wpList_plain rfl ?_
        intro K hK
        go_simp
        first | with_reducible refine hK _ _ ?_ | refine hK _ _ ?_
        clear hK K
        (try simp only [Act.put, nA, nB, nC])
        obtain ⟨x, hx⟩ : ∃ x, w5.heap.size = x := ⟨_, rfl⟩
        refine wpList_allocD rfl rfl x hx ?_
        intro w6 e6 b6 z6
        (try simp only [Act.put, nA, nB, nC])
        refine wpList_storeD rfl _ _ rfl x rfl zeros32 D1 rfl HD1.out rfl e6 ?_
        intro w7 e7 b7 k7 z7
        (try simp only [Act.put, nA, nB, nC])
        with_reducible refine wpList_plain rfl ?_
        intro K hK
        go_simp
        first | with_reducible refine hK _ _ ?_ | refine hK _ _ ?_
        clear hK K
        (try simp only [Act.put, nA, nB, nC])
        with_reducible refine wpList_plain rfl ?_
        intro K hK
        go_simp
        first | with_reducible refine hK _ _ ?_ | refine hK _ _ ?_
        clear hK K
        (try simp only [Act.put, nA, nB, nC])
        have b57 : Below w5.heap.size w5 w7 := (b6.trans b7).mono (by omega)
        have hbig5 := F5.out.big
        have F7 := Lib.hid (F5.out.low b57 hbig5)
        have O7 := Lib.hid (row64_low O5.out b57)
        clear e6 b6 z6 e7 b7 k7 z7 b57 F5 O5 hx
        have hbig7 := F7.out.big
        have c7 := F7.out.c0
        have dq7 : Hid (DRow w7 w7.heap.size vq q) := Lib.hid ((hq.out.low F7.out.bl (by rw [HN.out]; exact Nat.le_refl _)).mono (lim' := w7.heap.size) (by omega))
        go_upto_region 4 with fail
        with_reducible refine wp_region_list ?_
        with_reducible refine wpList_plain rfl ?_
        intro K hK
        go_simp
        first | with_reducible refine hK _ _ ?_ | refine hK _ _ ?_
        clear hK K
        (try simp only [Act.put, nA, nB, nC])
        with_reducible refine wpList_plain rfl ?_
        intro K hK
        go_simp
        first | with_reducible refine hK _ _ ?_ | refine hK _ _ ?_
        clear hK K
        (try simp only [Act.put, nA, nB, nC])
        with_reducible refine wpList_plain rfl ?_
        intro K hK
        go_simp
        first | with_reducible refine hK _ _ ?_ | refine hK _ _ ?_
        clear hK K
        (try simp only [Act.put, nA, nB, nC])
        with_reducible refine wpList_plain rfl ?_
        intro K hK
        go_simp
        first | with_reducible refine hK _ _ ?_ | refine hK _ _ ?_
        clear hK K
        (try simp only [Act.put, nA, nB, nC])
        with_reducible refine wpList_plain rfl ?_
        intro K hK
        go_simp
        first | with_reducible refine hK _ _ ?_ | refine hK _ _ ?_
        clear hK K
        (try simp only [Act.put, nA, nB, nC])
        with_reducible refine wpList_plain rfl ?_
        intro K hK
        go_simp
        first | with_reducible refine hK _ _ ?_ | refine hK _ _ ?_
        clear hK K
        (try simp only [Act.put, nA, nB, nC])
        refine wpList_loadD rfl _ rfl (N + 2) rfl b hbl.out F7.out.bb ?_
        (try simp only [Act.put, nA, nB, nC])
        with_reducible refine wpList_plain rfl ?_
        intro K hK
        go_simp
        first | with_reducible refine hK _ _ ?_ | refine hK _ _ ?_
        clear hK K
        (try simp only [Act.put, nA, nB, nC])
        with_reducible refine wpList_plain rfl ?_
        intro K hK
        go_simp
        refine (rClimb_any wd hw1 hw2 b hbl s i _ q w7 dq7 his hss).mono ?_; rintro e w8 ⟨sv2, rfl, o8, b8⟩
        first | with_reducible refine hK _ _ ?_ | refine hK _ _ ?_
        clear hK K
        (try simp only [Act.put, nA, nB, nC])
        rw [HY.out] at o8 ⊢
        obtain ⟨g2, c2, rfl⟩ := row64_form o8 HY0.out
        have F8 := Lib.hid (F7.out.low b8 hbig7)
        have O8 := Lib.hid (row64_low O7.out b8)
        have P8 := Lib.hid o8
        clear o8 b8 dq7 c7 F7 O7
        with_reducible refine wpList_plain rfl ?_
        intro K hK
        go_simp
        first | with_reducible refine hK _ _ ?_ | refine hK _ _ ?_
        clear hK K
        (try simp only [Act.put, nA, nB, nC])
        with_reducible refine wpList_plain rfl ?_
        intro K hK
        go_simp
        first | with_reducible refine hK _ _ ?_ | refine hK _ _ ?_
        clear hK K
        (try simp only [Act.put, nA, nB, nC])
        with_reducible refine wpList_plain rfl ?_
        intro K hK
        go_simp
        first | with_reducible refine hK _ _ ?_ | refine hK _ _ ?_
        clear hK K
        (try simp only [Act.put, nA, nB, nC])
        with_reducible refine wpList_plain rfl ?_
        intro K hK
        go_simp
        first | with_reducible refine hK _ _ ?_ | refine hK _ _ ?_
        clear hK K
        (try simp only [Act.put, nA, nB, nC])
        obtain ⟨y, hy⟩ : ∃ y, w8.heap.size = y := ⟨_, rfl⟩
        refine wpList_allocD rfl rfl y hy ?_
        intro w9 e9 b9 z9
        (try simp only [Act.put, nA, nB, nC])
        refine wpList_storeD rfl _ _ rfl y rfl zeros32 D2 rfl HD2.out rfl e9 ?_
        intro wa ea ba ka za
        (try simp only [Act.put, nA, nB, nC])
        with_reducible refine wpList_plain rfl ?_
        intro K hK
        go_simp
        first | with_reducible refine hK _ _ ?_ | refine hK _ _ ?_
        clear hK K
        (try simp only [Act.put, nA, nB, nC])
        with_reducible refine wpList_plain rfl ?_
        intro K hK
        go_simp
        first | with_reducible refine hK _ _ ?_ | refine hK _ _ ?_
        clear hK K
        (try simp only [Act.put, nA, nB, nC])
        have b8a : Below w8.heap.size w8 wa := (b9.trans ba).mono (by omega)
        have hbig8 := F8.out.big
        have C0 : Hid (UC w wa 106 N w4.heap.size w7.heap.size g1 c1 XS g2 c2 YS) := ⟨row64_low O8.out b8a, row64_low P8.out b8a, HA1.out, HA2.out, F8.out.bl.trans (b8a.mono (by omega))⟩
        clear e9 b9 z9 ea ba ka za b8a F8 O8 P8 hy
        obtain ⟨B1, hB1⟩ : ∃ x, w4.heap.size = x := ⟨_, rfl⟩
        obtain ⟨B2, hB2⟩ : ∃ x, w7.heap.size = x := ⟨_, rfl⟩
        rw [hB1, hB2] at C0
        clear hB1 hB2 hbig hbig3 hbig4 hbig5 hbig7 hbig8
        rw [HM1.out, HM2.out]
        have hM0 : 0 < M := by omega
        go_upto_region 7 with fail
        go_loopw [23, 24] (fun av i wr => ∃ (j t : Nat), j ≤ M ∧ t < M ∧ av = .int .i64 (t : Int) ∧ Hid (k < j → t = k) ∧ Hid (UC w wr 106 N B1 B2 g1 c1 XS g2 c2 YS) ∧ i = .int .i64 (j : Int)) (fun _ i _ => M - (intOf i).toNat)
        case atStart => exact ⟨0, 0, Nat.zero_le _, hM0, rfl, fun h => by omega, C0, rfl⟩
        case round =>
          obtain ⟨j, t, hjM, htM, rfl, HT, C, rfl⟩ := hrel
          clear C0
          have hbigC := C.out.big HN.out
          by_cases hlt : j < M
          case pos =>
            have dj : decide (j < M) = true := decide_eq_true hlt
            have dj2 : decide ((j : Int) < (M : Int)) = true := decide_eq_true (by omega)
            have ijM : (j : Int) < (M : Int) := by omega
            obtain ⟨X, hXj⟩ : ∃ X, XS[j]? = some X := ⟨_, List.getElem?_eq_getElem (by rw [HM1.out]; exact hlt)⟩
            obtain ⟨Y, hYj⟩ : ∃ Y, YS[j]? = some Y := ⟨_, List.getElem?_eq_getElem (by rw [HM2.out]; exact hlt)⟩
            have hXl : X.length = 64 := HA1.out X (List.mem_of_getElem? hXj)
            have hYl : Y.length = 64 := HA2.out Y (List.mem_of_getElem? hYj)
            obtain ⟨Q, hQ⟩ : ∃ Q, (X == Y) = Q := ⟨_, rfl⟩
            have hq0 := neQ64 X Y hXl hYl
            rw [hQ] at hq0
            have hqg := neGuardQ X Y
            have HXl := Lib.hid hXl
            have HYl := Lib.hid hYl
            have H := Lib.hid (And.intro (C.out.rx j X hXj) (C.out.ry j Y hYj))
            have HQk : Hid (Q = true → k ≠ j) := fun h e => by
              subst e
              rw [HE1.out] at hXj
              rw [HE2.out] at hYj
              have e1 := Option.some.inj hXj
              have e2 := Option.some.inj hYj
              rw [← e1, ← e2, h] at hQ
              exact HNe.out.2.2.1 (beq_iff_eq.1 hQ)
            have HQj : Hid (Q = false → j ≤ k) := fun h => by
              rcases Nat.lt_or_ge k j with hlt | hge
              · have e := HTl.out j hlt
                rw [hXj, hYj] at e
                rw [Option.some.inj e, beq_self_eq_true, h] at hQ
                cases hQ
              · exact hge
            clear hXj hYj hXl hYl hQ
            cases Q
            case true =>
              go_upto_region 9 with fail
              refine wp_region_held_drew (S := fun W => W.rangeAt g1 (j * 64) (X.map bv) ∧ W.rangeAt g2 (j * 64) (Y.map bv)) (by kernel_rfl) H.out (fun hHeld => ?_)
              refine' wpAnyH_take (i := 0) (oi := ⟨some 78, .move (.tmp 18), 51, "ref.go:212", #[], none⟩) rfl (by kernel_rfl) (by kernel_rfl) (by kernel_rfl) (fun _ _ _ h => h) (Or.inl ⟨by rfl, _⟩) (by assumption) _
              rotate_left
              · (intro wS hSw; (try dsimp only at hSw); go_simp; try with_reducible rfl)
              try simp only [Act.put, nA, nB, nC]
              refine' wpAnyH_take (i := 1) (oi := ⟨some 79, .move (.tmp 24), 3, "ref.go:212", #[], none⟩) rfl (by kernel_rfl) (by kernel_rfl) (by kernel_rfl) (fun _ _ _ h => h) (Or.inl ⟨by rfl, _⟩) (by assumption) _
              rotate_left
              · (intro wS hSw; (try dsimp only at hSw); go_simp; try with_reducible rfl)
              try simp only [Act.put, nA, nB, nC]
              refine' wpAnyH_take (i := 2) (oi := ⟨some 80, .indexAddr 51 (.tmp 78) (.tmp 79), 0, "ref.go:212", #[⟨0, .data⟩, ⟨1, .data⟩], none⟩) rfl (by kernel_rfl) (by kernel_rfl) (by kernel_rfl) (fun _ _ _ h => h) (Or.inl ⟨by rfl, _⟩) (by assumption) _
              rotate_left
              · (intro wS hSw; (try dsimp only at hSw); go_simp; try with_reducible rfl)
              try simp only [Act.put, nA, nB, nC]
              refine' wpAnyH_take (i := 3) (oi := ⟨some 81, .load 106 (.tmp 80), 106, "ref.go:212", #[⟨2, .data⟩], none⟩) rfl (by kernel_rfl) (by kernel_rfl) (by kernel_rfl) (fun _ _ _ h => h) (yieldsIf_loadQ (by rfl) _ rfl g1 (j * 64) rfl X HXl.out (fun W hW => hW.1)) (by assumption) _
              (try simp only [Act.put, nA, nB, nC])
              refine' wpAnyH_take (i := 4) (oi := ⟨some 82, .move (.tmp 21), 51, "ref.go:212", #[], none⟩) rfl (by kernel_rfl) (by kernel_rfl) (by kernel_rfl) (fun _ _ _ h => h) (Or.inl ⟨by rfl, _⟩) (by assumption) _
              rotate_left
              · (intro wS hSw; (try dsimp only at hSw); go_simp; try with_reducible rfl)
              try simp only [Act.put, nA, nB, nC]
              refine' wpAnyH_take (i := 5) (oi := ⟨some 83, .move (.tmp 24), 3, "ref.go:212", #[], none⟩) rfl (by kernel_rfl) (by kernel_rfl) (by kernel_rfl) (fun _ _ _ h => h) (Or.inl ⟨by rfl, _⟩) (by assumption) _
              rotate_left
              · (intro wS hSw; (try dsimp only at hSw); go_simp; try with_reducible rfl)
              try simp only [Act.put, nA, nB, nC]
              refine' wpAnyH_take (i := 6) (oi := ⟨some 84, .indexAddr 51 (.tmp 82) (.tmp 83), 0, "ref.go:212", #[⟨4, .data⟩, ⟨5, .data⟩], none⟩) rfl (by kernel_rfl) (by kernel_rfl) (by kernel_rfl) (fun _ _ _ h => h) (Or.inl ⟨by rfl, _⟩) (by assumption) _
              rotate_left
              · (intro wS hSw; (try dsimp only at hSw); go_simp; try with_reducible rfl)
              try simp only [Act.put, nA, nB, nC]
              refine' wpAnyH_take (i := 7) (oi := ⟨some 85, .load 106 (.tmp 84), 106, "ref.go:212", #[⟨6, .data⟩], none⟩) rfl (by kernel_rfl) (by kernel_rfl) (by kernel_rfl) (fun _ _ _ h => h) (yieldsIf_loadQ (by rfl) _ rfl g2 (j * 64) rfl Y HYl.out (fun W hW => hW.2)) (by assumption) _
              (try simp only [Act.put, nA, nB, nC])
              refine' wpAnyH_take (i := 8) (oi := ⟨some 86, .binOp .neq 106 (.tmp 81) (.tmp 85) 106, 4, "ref.go:212", #[⟨3, .data⟩, ⟨7, .data⟩], none⟩) rfl (by kernel_rfl) (by kernel_rfl) (by kernel_rfl) (fun _ _ _ h => h) (Or.inl ⟨by rfl, _⟩) (by assumption) _
              rotate_left
              · (intro wS hSw; (try dsimp only at hSw); go_simp; try with_reducible rfl)
              try simp only [Act.put, nA, nB, nC]
              refine wpAnyH_done (by kernel_rfl) ?_ _
              clear hq0 hqg hHeld H
              have C2 := Lib.hid (C.out.low hbigC (Below.refl _ _).drew)
              clear C
              have hkj := HQk.out rfl
              have HT2 : Hid (k < j + 1 → t = k) := fun h => HT.out (by omega)
              clear HT hkj
              go_wp2_with fail
              exact ⟨⟨j + 1, t, by omega, htM, rfl, HT2, C2, by go_num⟩, by simp [intOf]; omega⟩
            case false =>
              go_upto_region 9 with fail
              refine wp_region_held_drew (S := fun W => W.rangeAt g1 (j * 64) (X.map bv) ∧ W.rangeAt g2 (j * 64) (Y.map bv)) (by kernel_rfl) H.out (fun hHeld => ?_)
              refine' wpAnyH_take (i := 0) (oi := ⟨some 78, .move (.tmp 18), 51, "ref.go:212", #[], none⟩) rfl (by kernel_rfl) (by kernel_rfl) (by kernel_rfl) (fun _ _ _ h => h) (Or.inl ⟨by rfl, _⟩) (by assumption) _
              rotate_left
              · (intro wS hSw; (try dsimp only at hSw); go_simp; try with_reducible rfl)
              try simp only [Act.put, nA, nB, nC]
              refine' wpAnyH_take (i := 1) (oi := ⟨some 79, .move (.tmp 24), 3, "ref.go:212", #[], none⟩) rfl (by kernel_rfl) (by kernel_rfl) (by kernel_rfl) (fun _ _ _ h => h) (Or.inl ⟨by rfl, _⟩) (by assumption) _
              rotate_left
              · (intro wS hSw; (try dsimp only at hSw); go_simp; try with_reducible rfl)
              try simp only [Act.put, nA, nB, nC]
              refine' wpAnyH_take (i := 2) (oi := ⟨some 80, .indexAddr 51 (.tmp 78) (.tmp 79), 0, "ref.go:212", #[⟨0, .data⟩, ⟨1, .data⟩], none⟩) rfl (by kernel_rfl) (by kernel_rfl) (by kernel_rfl) (fun _ _ _ h => h) (Or.inl ⟨by rfl, _⟩) (by assumption) _
              rotate_left
              · (intro wS hSw; (try dsimp only at hSw); go_simp; try with_reducible rfl)
              try simp only [Act.put, nA, nB, nC]
              refine' wpAnyH_take (i := 3) (oi := ⟨some 81, .load 106 (.tmp 80), 106, "ref.go:212", #[⟨2, .data⟩], none⟩) rfl (by kernel_rfl) (by kernel_rfl) (by kernel_rfl) (fun _ _ _ h => h) (yieldsIf_loadQ (by rfl) _ rfl g1 (j * 64) rfl X HXl.out (fun W hW => hW.1)) (by assumption) _
              (try simp only [Act.put, nA, nB, nC])
              refine' wpAnyH_take (i := 4) (oi := ⟨some 82, .move (.tmp 21), 51, "ref.go:212", #[], none⟩) rfl (by kernel_rfl) (by kernel_rfl) (by kernel_rfl) (fun _ _ _ h => h) (Or.inl ⟨by rfl, _⟩) (by assumption) _
              rotate_left
              · (intro wS hSw; (try dsimp only at hSw); go_simp; try with_reducible rfl)
              try simp only [Act.put, nA, nB, nC]
              refine' wpAnyH_take (i := 5) (oi := ⟨some 83, .move (.tmp 24), 3, "ref.go:212", #[], none⟩) rfl (by kernel_rfl) (by kernel_rfl) (by kernel_rfl) (fun _ _ _ h => h) (Or.inl ⟨by rfl, _⟩) (by assumption) _
              rotate_left
              · (intro wS hSw; (try dsimp only at hSw); go_simp; try with_reducible rfl)
              try simp only [Act.put, nA, nB, nC]
              refine' wpAnyH_take (i := 6) (oi := ⟨some 84, .indexAddr 51 (.tmp 82) (.tmp 83), 0, "ref.go:212", #[⟨4, .data⟩, ⟨5, .data⟩], none⟩) rfl (by kernel_rfl) (by kernel_rfl) (by kernel_rfl) (fun _ _ _ h => h) (Or.inl ⟨by rfl, _⟩) (by assumption) _
              rotate_left
              · (intro wS hSw; (try dsimp only at hSw); go_simp; try with_reducible rfl)
              try simp only [Act.put, nA, nB, nC]
              refine' wpAnyH_take (i := 7) (oi := ⟨some 85, .load 106 (.tmp 84), 106, "ref.go:212", #[⟨6, .data⟩], none⟩) rfl (by kernel_rfl) (by kernel_rfl) (by kernel_rfl) (fun _ _ _ h => h) (yieldsIf_loadQ (by rfl) _ rfl g2 (j * 64) rfl Y HYl.out (fun W hW => hW.2)) (by assumption) _
              (try simp only [Act.put, nA, nB, nC])
              refine' wpAnyH_take (i := 8) (oi := ⟨some 86, .binOp .neq 106 (.tmp 81) (.tmp 85) 106, 4, "ref.go:212", #[⟨3, .data⟩, ⟨7, .data⟩], none⟩) rfl (by kernel_rfl) (by kernel_rfl) (by kernel_rfl) (fun _ _ _ h => h) (Or.inl ⟨by rfl, _⟩) (by assumption) _
              rotate_left
              · (intro wS hSw; (try dsimp only at hSw); go_simp; try with_reducible rfl)
              try simp only [Act.put, nA, nB, nC]
              refine wpAnyH_done (by kernel_rfl) ?_ _
              clear hq0 hqg hHeld H
              have C2 := Lib.hid (C.out.low hbigC (Below.refl _ _).drew)
              clear C
              have hkj := HQj.out rfl
              have HT2 : Hid (k < j + 1 → j = k) := fun h => by omega
              clear HT hkj
              go_wp2_with fail
              exact ⟨⟨j + 1, j, by omega, hlt, rfl, HT2, C2, by go_num⟩, by simp [intOf]; omega⟩
          case neg =>
            have dj : decide (j < M) = false := decide_eq_false hlt
            have dj2 : decide ((j : Int) < (M : Int)) = false := decide_eq_false (by omega)
            obtain rfl := HT.out (by omega)
            obtain ⟨⟨hxa, hxb, hya, hyb⟩, _, _, _⟩ := HNe.out
            have HXa := Lib.hid hxa
            have HXb := Lib.hid hxb
            have HYa := Lib.hid hya
            have HYb := Lib.hid hyb
            have itM : (t : Int) < (M : Int) := by omega
            go_upto_region 11 with fail
            have R1 := C.out.rx t _ HE1.out
            have R2 := C.out.ry t _ HE2.out
            have H1 : Hid ((wr.rangeAt g1 (t * 64) (xa.map bv) ∧ wr.rangeAt g1 (t * 64 + 32) (xb.map bv)) ∧ (wr.rangeAt g2 (t * 64) (ya.map bv) ∧ wr.rangeAt g2 (t * 64 + 32) (yb.map bv))) := ⟨⟨rng_left R1, rng_right hxa R1⟩, ⟨rng_left R2, rng_right hya R2⟩⟩
            clear R1 R2 hxa hxb hya hyb
            refine wp_region_held_drew (S := fun W => (W.rangeAt g1 (t * 64) (xa.map bv) ∧ W.rangeAt g1 (t * 64 + 32) (xb.map bv)) ∧ (W.rangeAt g2 (t * 64) (ya.map bv) ∧ W.rangeAt g2 (t * 64 + 32) (yb.map bv))) (by kernel_rfl) H1.out (fun hHeld => ?_)
            refine' wpAnyH_take (i := 0) (oi := ⟨some 88, .move (.tmp 0), 3, "ref.go:216", #[], none⟩) rfl (by kernel_rfl) (by kernel_rfl) (by kernel_rfl) (fun _ _ _ h => h) (Or.inl ⟨by rfl, _⟩) (by assumption) _
            rotate_left
            · (intro wS hSw; (try dsimp only at hSw); go_simp; try with_reducible rfl)
            try simp only [Act.put, nA, nB, nC]
            refine' wpAnyH_take (i := 1) (oi := ⟨some 89, .move (.tmp 18), 51, "ref.go:216", #[], none⟩) rfl (by kernel_rfl) (by kernel_rfl) (by kernel_rfl) (fun _ _ _ h => h) (Or.inl ⟨by rfl, _⟩) (by assumption) _
            rotate_left
            · (intro wS hSw; (try dsimp only at hSw); go_simp; try with_reducible rfl)
            try simp only [Act.put, nA, nB, nC]
            refine' wpAnyH_take (i := 2) (oi := ⟨some 90, .move (.tmp 23), 3, "ref.go:216", #[], none⟩) rfl (by kernel_rfl) (by kernel_rfl) (by kernel_rfl) (fun _ _ _ h => h) (Or.inl ⟨by rfl, _⟩) (by assumption) _
            rotate_left
            · (intro wS hSw; (try dsimp only at hSw); go_simp; try with_reducible rfl)
            try simp only [Act.put, nA, nB, nC]
            refine' wpAnyH_take (i := 3) (oi := ⟨some 91, .indexAddr 51 (.tmp 89) (.tmp 90), 0, "ref.go:216", #[⟨1, .data⟩, ⟨2, .data⟩], none⟩) rfl (by kernel_rfl) (by kernel_rfl) (by kernel_rfl) (fun _ _ _ h => h) (Or.inl ⟨by rfl, _⟩) (by assumption) _
            rotate_left
            · (intro wS hSw; (try dsimp only at hSw); go_simp; try with_reducible rfl)
            try simp only [Act.put, nA, nB, nC]
            refine' wpAnyH_take (i := 4) (oi := ⟨some 92, .fieldAddr 106 (.tmp 91) 0, 0, "ref.go:216", #[⟨3, .data⟩], none⟩) rfl (by kernel_rfl) (by kernel_rfl) (by kernel_rfl) (fun _ _ _ h => h) (Or.inl ⟨by rfl, _⟩) (by assumption) _
            rotate_left
            · (intro wS hSw; (try dsimp only at hSw); go_simp; try with_reducible rfl)
            try simp only [Act.put, nA, nB, nC]
            refine' wpAnyH_take (i := 5) (oi := ⟨some 93, .load 23 (.tmp 92), 23, "ref.go:216", #[⟨4, .data⟩], none⟩) rfl (by kernel_rfl) (by kernel_rfl) (by kernel_rfl) (fun _ _ _ h => h) (yieldsIf_loadRng (by rfl) _ rfl g1 (t * 64) rfl xa HXa.out (fun W hW => hW.1.1)) (by assumption) _
            (try simp only [Act.put, nA, nB, nC])
            refine' wpAnyH_take (i := 6) (oi := ⟨some 94, .move (.tmp 18), 51, "ref.go:216", #[], none⟩) rfl (by kernel_rfl) (by kernel_rfl) (by kernel_rfl) (fun _ _ _ h => h) (Or.inl ⟨by rfl, _⟩) (by assumption) _
            rotate_left
            · (intro wS hSw; (try dsimp only at hSw); go_simp; try with_reducible rfl)
            try simp only [Act.put, nA, nB, nC]
            refine' wpAnyH_take (i := 7) (oi := ⟨some 95, .move (.tmp 23), 3, "ref.go:216", #[], none⟩) rfl (by kernel_rfl) (by kernel_rfl) (by kernel_rfl) (fun _ _ _ h => h) (Or.inl ⟨by rfl, _⟩) (by assumption) _
            rotate_left
            · (intro wS hSw; (try dsimp only at hSw); go_simp; try with_reducible rfl)
            try simp only [Act.put, nA, nB, nC]
            refine' wpAnyH_take (i := 8) (oi := ⟨some 96, .indexAddr 51 (.tmp 94) (.tmp 95), 0, "ref.go:216", #[⟨6, .data⟩, ⟨7, .data⟩], none⟩) rfl (by kernel_rfl) (by kernel_rfl) (by kernel_rfl) (fun _ _ _ h => h) (Or.inl ⟨by rfl, _⟩) (by assumption) _
            rotate_left
            · (intro wS hSw; (try dsimp only at hSw); go_simp; try with_reducible rfl)
            try simp only [Act.put, nA, nB, nC]
            refine' wpAnyH_take (i := 9) (oi := ⟨some 97, .fieldAddr 106 (.tmp 96) 1, 0, "ref.go:216", #[⟨8, .data⟩], none⟩) rfl (by kernel_rfl) (by kernel_rfl) (by kernel_rfl) (fun _ _ _ h => h) (Or.inl ⟨by rfl, _⟩) (by assumption) _
            rotate_left
            · (intro wS hSw; (try dsimp only at hSw); go_simp; try with_reducible rfl)
            try simp only [Act.put, nA, nB, nC]
            refine' wpAnyH_take (i := 10) (oi := ⟨some 98, .load 23 (.tmp 97), 23, "ref.go:216", #[⟨9, .data⟩], none⟩) rfl (by kernel_rfl) (by kernel_rfl) (by kernel_rfl) (fun _ _ _ h => h) (yieldsIf_loadRng (by rfl) _ rfl g1 (t * 64 + 32) rfl xb HXb.out (fun W hW => hW.1.2)) (by assumption) _
            (try simp only [Act.put, nA, nB, nC])
            refine' wpAnyH_take (i := 12) (oi := ⟨some 100, .move (.tmp 0), 3, "ref.go:216", #[], none⟩) rfl (by kernel_rfl) (by kernel_rfl) (by kernel_rfl) (fun _ _ _ h => h) (Or.inl ⟨by rfl, _⟩) (by assumption) _
            rotate_left
            · (intro wS hSw; (try dsimp only at hSw); go_simp; try with_reducible rfl)
            try simp only [Act.put, nA, nB, nC]
            refine' wpAnyH_take (i := 13) (oi := ⟨some 101, .move (.tmp 21), 51, "ref.go:216", #[], none⟩) rfl (by kernel_rfl) (by kernel_rfl) (by kernel_rfl) (fun _ _ _ h => h) (Or.inl ⟨by rfl, _⟩) (by assumption) _
            rotate_left
            · (intro wS hSw; (try dsimp only at hSw); go_simp; try with_reducible rfl)
            try simp only [Act.put, nA, nB, nC]
            refine' wpAnyH_take (i := 14) (oi := ⟨some 102, .move (.tmp 23), 3, "ref.go:216", #[], none⟩) rfl (by kernel_rfl) (by kernel_rfl) (by kernel_rfl) (fun _ _ _ h => h) (Or.inl ⟨by rfl, _⟩) (by assumption) _
            rotate_left
            · (intro wS hSw; (try dsimp only at hSw); go_simp; try with_reducible rfl)
            try simp only [Act.put, nA, nB, nC]
            refine' wpAnyH_take (i := 15) (oi := ⟨some 103, .indexAddr 51 (.tmp 101) (.tmp 102), 0, "ref.go:216", #[⟨13, .data⟩, ⟨14, .data⟩], none⟩) rfl (by kernel_rfl) (by kernel_rfl) (by kernel_rfl) (fun _ _ _ h => h) (Or.inl ⟨by rfl, _⟩) (by assumption) _
            rotate_left
            · (intro wS hSw; (try dsimp only at hSw); go_simp; try with_reducible rfl)
            try simp only [Act.put, nA, nB, nC]
            refine' wpAnyH_take (i := 16) (oi := ⟨some 104, .fieldAddr 106 (.tmp 103) 0, 0, "ref.go:216", #[⟨15, .data⟩], none⟩) rfl (by kernel_rfl) (by kernel_rfl) (by kernel_rfl) (fun _ _ _ h => h) (Or.inl ⟨by rfl, _⟩) (by assumption) _
            rotate_left
            · (intro wS hSw; (try dsimp only at hSw); go_simp; try with_reducible rfl)
            try simp only [Act.put, nA, nB, nC]
            refine' wpAnyH_take (i := 17) (oi := ⟨some 105, .load 23 (.tmp 104), 23, "ref.go:216", #[⟨16, .data⟩], none⟩) rfl (by kernel_rfl) (by kernel_rfl) (by kernel_rfl) (fun _ _ _ h => h) (yieldsIf_loadRng (by rfl) _ rfl g2 (t * 64) rfl ya HYa.out (fun W hW => hW.2.1)) (by assumption) _
            (try simp only [Act.put, nA, nB, nC])
            refine' wpAnyH_take (i := 18) (oi := ⟨some 106, .move (.tmp 21), 51, "ref.go:216", #[], none⟩) rfl (by kernel_rfl) (by kernel_rfl) (by kernel_rfl) (fun _ _ _ h => h) (Or.inl ⟨by rfl, _⟩) (by assumption) _
            rotate_left
            · (intro wS hSw; (try dsimp only at hSw); go_simp; try with_reducible rfl)
            try simp only [Act.put, nA, nB, nC]
            refine' wpAnyH_take (i := 19) (oi := ⟨some 107, .move (.tmp 23), 3, "ref.go:216", #[], none⟩) rfl (by kernel_rfl) (by kernel_rfl) (by kernel_rfl) (fun _ _ _ h => h) (Or.inl ⟨by rfl, _⟩) (by assumption) _
            rotate_left
            · (intro wS hSw; (try dsimp only at hSw); go_simp; try with_reducible rfl)
            try simp only [Act.put, nA, nB, nC]
            refine' wpAnyH_take (i := 20) (oi := ⟨some 108, .indexAddr 51 (.tmp 106) (.tmp 107), 0, "ref.go:216", #[⟨18, .data⟩, ⟨19, .data⟩], none⟩) rfl (by kernel_rfl) (by kernel_rfl) (by kernel_rfl) (fun _ _ _ h => h) (Or.inl ⟨by rfl, _⟩) (by assumption) _
            rotate_left
            · (intro wS hSw; (try dsimp only at hSw); go_simp; try with_reducible rfl)
            try simp only [Act.put, nA, nB, nC]
            refine' wpAnyH_take (i := 21) (oi := ⟨some 109, .fieldAddr 106 (.tmp 108) 1, 0, "ref.go:216", #[⟨20, .data⟩], none⟩) rfl (by kernel_rfl) (by kernel_rfl) (by kernel_rfl) (fun _ _ _ h => h) (Or.inl ⟨by rfl, _⟩) (by assumption) _
            rotate_left
            · (intro wS hSw; (try dsimp only at hSw); go_simp; try with_reducible rfl)
            try simp only [Act.put, nA, nB, nC]
            refine' wpAnyH_take (i := 22) (oi := ⟨some 110, .load 23 (.tmp 109), 23, "ref.go:216", #[⟨21, .data⟩], none⟩) rfl (by kernel_rfl) (by kernel_rfl) (by kernel_rfl) (fun _ _ _ h => h) (yieldsIf_loadRng (by rfl) _ rfl g2 (t * 64 + 32) rfl yb HYb.out (fun W hW => hW.2.2)) (by assumption) _
            (try simp only [Act.put, nA, nB, nC])
            refine wpAnyH_ready (rs := [11]) (by kernel_rfl) (by simp) ?_
            refine AllReadyH.cons (o := ⟨some 99, .call ⟨.value (.func 64), #[.tmp 88, .tmp 93, .tmp 98], #[3, 23, 23]⟩, 9, "ref.go:216", #[⟨0, .data⟩, ⟨5, .data⟩, ⟨10, .data⟩], none⟩) rfl (fun K hK => ?_) AllReadyH.nil
            (go_simp; (go_at_call 64; refine (KnotText_any wd xa xb _ hw2 HXa HXb).mono ?_; rintro e wc ⟨rfl, hbc'⟩; rw [HKt1.out]; have hbc : Below wr.heap.size wr wc := Below.trans (Below.refl _ _).drew hbc'; have C3 := Lib.hid (C.out.low hbigC hbc); have R3 := C3.out.rx t _ HE1.out; have R4 := C3.out.ry t _ HE2.out))
            refine hK.out _ _ ?_ (fun hHeld => ?_)
            · exact ⟨⟨rng_left R3, rng_right HXa.out R3⟩, ⟨rng_left R4, rng_right HYa.out R4⟩⟩
            clear hK K
            try simp only [Act.put, nA, nB, nC]
            have hbC3 := C3.out.big HN.out
            refine wpAnyH_ready (rs := [23]) (by kernel_rfl) (by simp) ?_
            refine AllReadyH.cons (o := ⟨some 111, .call ⟨.value (.func 64), #[.tmp 100, .tmp 105, .tmp 110], #[3, 23, 23]⟩, 9, "ref.go:216", #[⟨12, .data⟩, ⟨17, .data⟩, ⟨22, .data⟩, ⟨11, .chain⟩], none⟩) rfl (fun K hK => ?_) AllReadyH.nil
            (go_simp; (go_at_call 64; refine (KnotText_any wd ya yb _ hw2 HYa HYb).mono ?_; rintro e wd1 ⟨rfl, hbd⟩; rw [HKt2.out]; have C4 := Lib.hid (C3.out.low hbC3 hbd); have R5 := C4.out.rx t _ HE1.out; have R6 := C4.out.ry t _ HE2.out))
            refine hK.out _ _ ?_ (fun hHeld => ?_)
            · exact ⟨⟨rng_left R5, rng_right HXa.out R5⟩, ⟨rng_left R6, rng_right HYa.out R6⟩⟩
            clear hK K
            try simp only [Act.put, nA, nB, nC]
            refine' wpAnyH_take (i := 24) (oi := { dst := Option.some 14, op := Op.assign (Operand.tmp 99), type := 9, pos := "ref.go:216", after := #[{ on := 11, ground := Ground.data }, { on := 23, ground := Ground.chain }, { on := 0, ground := Ground.phase }, { on := 1, ground := Ground.phase }, { on := 2, ground := Ground.phase }, { on := 3, ground := Ground.phase }, { on := 4, ground := Ground.phase }, { on := 5, ground := Ground.phase }, { on := 6, ground := Ground.phase }, { on := 7, ground := Ground.phase }, { on := 8, ground := Ground.phase }, { on := 9, ground := Ground.phase }, { on := 10, ground := Ground.phase }, { on := 11, ground := Ground.phase }, { on := 12, ground := Ground.textOnly Departure.lateStores }, { on := 13, ground := Ground.textOnly Departure.lateStores }, { on := 14, ground := Ground.textOnly Departure.lateStores }, { on := 15, ground := Ground.textOnly Departure.lateStores }, { on := 16, ground := Ground.textOnly Departure.lateStores }, { on := 17, ground := Ground.textOnly Departure.lateStores }, { on := 18, ground := Ground.textOnly Departure.lateStores }, { on := 19, ground := Ground.textOnly Departure.lateStores }, { on := 20, ground := Ground.textOnly Departure.lateStores }, { on := 21, ground := Ground.textOnly Departure.lateStores }, { on := 22, ground := Ground.textOnly Departure.lateStores }, { on := 23, ground := Ground.textOnly Departure.lateStoresUnsure }], guard := Option.none }) rfl (by kernel_rfl) (by kernel_rfl) (by kernel_rfl) (fun _ _ _ h => h) (Or.inl ⟨by rfl, _⟩) (by assumption) _
            rotate_left
            · (intro wS hSw; (try dsimp only at hSw); go_simp; try with_reducible rfl)
            try simp only [Act.put, nA, nB, nC]
            refine' wpAnyH_take (i := 25) (oi := ⟨some 15, .assign (.tmp 111), 9, "ref.go:216", #[⟨23, .data⟩, ⟨24, .chain⟩, ⟨0, .phase⟩, ⟨1, .phase⟩, ⟨2, .phase⟩, ⟨3, .phase⟩, ⟨4, .phase⟩, ⟨5, .phase⟩, ⟨6, .phase⟩, ⟨7, .phase⟩, ⟨8, .phase⟩, ⟨9, .phase⟩, ⟨10, .phase⟩, ⟨11, .phase⟩, ⟨12, .phase⟩, ⟨13, .phase⟩, ⟨14, .phase⟩, ⟨15, .phase⟩, ⟨16, .phase⟩, ⟨17, .phase⟩, ⟨18, .phase⟩, ⟨19, .phase⟩, ⟨20, .phase⟩, ⟨21, .phase⟩, ⟨22, .phase⟩, ⟨23, .phase⟩, ⟨24, .phase⟩], none⟩) rfl (by kernel_rfl) (by kernel_rfl) (by kernel_rfl) (fun _ _ _ h => h) (Or.inl ⟨by rfl, _⟩) (by assumption) _
            rotate_left
            · (intro wS hSw; (try dsimp only at hSw); go_simp; try with_reducible rfl)
            try simp only [Act.put, nA, nB, nC]
            refine' wpAnyH_take (i := 26) (oi := ⟨some 16, .assign (.const (.int .i64 0)), 24, "ref.go:216", #[⟨25, .chain⟩, ⟨0, .phase⟩, ⟨1, .phase⟩, ⟨2, .phase⟩, ⟨3, .phase⟩, ⟨4, .phase⟩, ⟨5, .phase⟩, ⟨6, .phase⟩, ⟨7, .phase⟩, ⟨8, .phase⟩, ⟨9, .phase⟩, ⟨10, .phase⟩, ⟨11, .phase⟩, ⟨12, .phase⟩, ⟨13, .phase⟩, ⟨14, .phase⟩, ⟨15, .phase⟩, ⟨16, .phase⟩, ⟨17, .phase⟩, ⟨18, .phase⟩, ⟨19, .phase⟩, ⟨20, .phase⟩, ⟨21, .phase⟩, ⟨22, .phase⟩, ⟨23, .phase⟩, ⟨24, .phase⟩, ⟨25, .phase⟩], none⟩) rfl (by kernel_rfl) (by kernel_rfl) (by kernel_rfl) (fun _ _ _ h => h) (Or.inl ⟨by rfl, _⟩) (by assumption) _
            rotate_left
            · (intro wS hSw; (try dsimp only at hSw); go_simp; try with_reducible rfl)
            try simp only [Act.put, nA, nB, nC]
            refine wpAnyH_done (by kernel_rfl) ?_ _
            have B4 := Lib.hid C4.out.bl
            clear hHeld H1 hbc hbc' hbd R3 R4 R5 R6 C C3 C4
            go_wp2_with fail
            go_ret3
            exact ⟨rfl, B4.out⟩
end Go.Proofs.Ytihbhpggpnmifaa

namespace Go.Proofs.Ytihbhpggpnmifaa
open Go.RowKit Go.Lib Hw
set_option linter.unusedVariables false

set_option maxHeartbeats 2000000 in
theorem keptDigests_mod (g cap : Nat) (v : Value) (l : List Dg) (w : World) (B lim : Nat) (ho : Hid (OwnR w B (.slice (some ⟨g, 0, none⟩) (l.length + 1) cap) (l ++ [mark7]))) (hd : Hid (DRow w lim v l)) (hlim : lim ≤ B) (hB : B ≤ w.heap.size) (n0 : Nat) (hl : l.length * 32 ≤ 140737488351232) :
    Calls Try.prog 19 #[.slice (some ⟨g, 0, none⟩) n0 cap, v] w fun e w' => e = .returned (.bool true) ∧ Mod (fun k => k = g) w w' := by
  have hcap := ho.out.cap.2
  have hgB := ho.out.lt g rfl
  rw [List.length_append, List.length_singleton] at hcap
  have hA : Hid (All32 l) := hd.out.1
  obtain ⟨_, ad, c, rfl, hc1, hc2, _⟩ := hd.out
  have HO : Hid (OwnR w B (.slice (some ⟨g, 0, none⟩) (l.length + 1) cap) (keptL l 0)) := ho
  clear ho
  go_enter Try.func19, Try.ntmps19
  go_upto_region 2 with fail
  refine wp_region_list ?_
  have ik : (l.length : Int) < ((l.length + 1 : Nat) : Int) := by omega
  have ik2 : (l.length : Int) < (l.length : Int) + 1 := by omega
  with_reducible refine wpList_plain rfl ?_
  intro K hK
  go_simp
  first | with_reducible refine hK _ _ ?_ | refine hK _ _ ?_
  clear hK K
  (try simp only [Act.put, nA, nB, nC])
  with_reducible refine wpList_plain rfl ?_
  intro K hK
  go_simp
  first | with_reducible refine hK _ _ ?_ | refine hK _ _ ?_
  clear hK K
  (try simp only [Act.put, nA, nB, nC])
  with_reducible refine wpList_plain rfl ?_
  intro K hK
  go_simp
  first | with_reducible refine hK _ _ ?_ | refine hK _ _ ?_
  clear hK K
  (try simp only [Act.put, nA, nB, nC])
  with_reducible refine wpList_plain rfl ?_
  intro K hK
  go_simp
  first | with_reducible refine hK _ _ ?_ | refine hK _ _ ?_
  clear hK K
  (try simp only [Act.put, nA, nB, nC])
  have e7 : (mark7 == mark7) = true := by decide
  have hq := eqD mark7 mark7 rfl rfl
  rw [e7] at hq
  have hq2 : ∀ w : World, (binOp .eql 23 (dv mark7) (.agg (mark7.map bv).toArray)).run Try.prog w = .ok (.bool true) w := hq
  set_option maxRecDepth 20000 in
  refine wpList_loadR rfl _ rfl HO.out (keptL_all hA.out 0) l.length (by rw [keptL_len _ _ (by omega)]; omega) mark7 (keptL_end l _) rfl ?_
  (try simp only [Act.put, nA, nB, nC])
  refine wpList_built rfl 23 _ rfl _ (by simp; rfl) _ built_7 ?_
  (try simp only [Act.put, nA, nB, nC])
  with_reducible refine wpList_plain rfl ?_
  intro K hK
  go_simp
  first | with_reducible refine hK _ _ ?_ | refine hK _ _ ?_
  clear hK K
  (try simp only [Act.put, nA, nB, nC])
  with_reducible refine wpList_plain rfl ?_
  intro K hK
  go_simp
  first | with_reducible refine hK _ _ ?_ | refine hK _ _ ?_
  clear hK K
  (try simp only [Act.put, nA, nB, nC])
  clear hq hq2
  go_wp2_with fail
  go_loopw [6, 7] (fun okv i wr => ∃ (k : Nat), k ≤ l.length ∧ okv = .bool true ∧ Hid (OwnR wr B (.slice (some ⟨g, 0, none⟩) (l.length + 1) cap) (keptL l k)) ∧ Hid (Mod (fun k => k = g) w wr) ∧ i = .int .i64 (k : Int)) (fun _ i _ => l.length - (intOf i).toNat)
  case atStart => exact ⟨0, Nat.zero_le _, rfl, HO, Mod.refl _ _, rfl⟩
  case round =>
    obtain ⟨k, hk, rfl, HO, HB, rfl⟩ := hrel
    by_cases hlt : k < l.length
    · have dk : decide (k < l.length) = true := decide_eq_true hlt
      have dk2 : decide ((k : Int) < (l.length : Int)) = true := decide_eq_true (by omega)
      have ik : (k : Int) < (l.length : Int) := by omega
      have ik2 : (k : Int) < ((l.length + 1 : Nat) : Int) := by omega
      have ik3 : (k : Int) < (l.length : Int) + 1 := by omega
      have hd2 : Hid (DRow wr lim (.slice ad l.length c) l) := hd.out.mod HB.out (fun k hk e => by have := hgB.1; omega)
      obtain ⟨_, ad', c', e9, _, _, hr⟩ := hd2.out
      obtain ⟨b, o, e8, _, _, hr2⟩ := hr (by omega)
      simp only [Value.slice.injEq] at e9
      have e91 := e9.1
      clear e9
      rw [e8] at e91
      subst e91
      obtain ⟨m, hm⟩ : ∃ m, l[k] = m := ⟨_, rfl⟩
      have hml : m.length = 32 := by rw [← hm]; exact hA.out _ (List.getElem_mem hlt)
      have hr3 := hr2 k hlt
      rw [hm] at hr3
      have hkl : k < (keptL l k).length := by rw [keptL_len _ _ hk]; omega
      have hg3 := HO.out.range (keptL_all hA.out k) k hkl
      rw [keptL_at l k hlt, hm] at hg3
      have HML := Lib.hid hml
      have HKL := Lib.hid hkl
      have H3 := Lib.hid (And.intro hr3 hg3)
      clear hr3 hg3 hr2 hr e8 hm hml hkl
      have hq := eqD m m HML.out HML.out
      rw [beq_self_eq_true] at hq
      have hqg := eqGuardD m m
      go_upto_region 6 with fail
      refine wp_region_held_drew (S := fun W => W.rangeAt b (o + k * 32) (m.map bv) ∧ W.rangeAt g (k * 32) (m.map bv)) (by kernel_rfl) H3.out (fun hHeld => ?_)
      refine' wpAnyH_take (i := 0) (oi := ⟨some 26, .move (.tmp 6), 4, "law.go:63", #[], none⟩) rfl (by kernel_rfl) (by kernel_rfl) (by kernel_rfl) (fun _ _ _ h => h) (Or.inl ⟨by rfl, _⟩) (by assumption) _
      rotate_left
      · (intro wS hSw; (try dsimp only at hSw); go_simp; try with_reducible rfl)
      try simp only [Act.put, nA, nB, nC]
      refine' wpAnyH_take (i := 1) (oi := ⟨some 27, .move (.tmp 26), 4, "law.go:63", #[⟨0, .data⟩], none⟩) rfl (by kernel_rfl) (by kernel_rfl) (by kernel_rfl) (fun _ _ _ h => h) (Or.inl ⟨by rfl, _⟩) (by assumption) _
      rotate_left
      · (intro wS hSw; (try dsimp only at hSw); go_simp; try with_reducible rfl)
      try simp only [Act.put, nA, nB, nC]
      refine' wpAnyH_take (i := 2) (oi := ⟨some 28, .move (.tmp 5), 32, "law.go:63", #[⟨1, .guard⟩], some (1, true)⟩) rfl (by kernel_rfl) (by kernel_rfl) (by kernel_rfl) (fun _ _ _ h => h) (Or.inl ⟨by rfl, _⟩) (by assumption) _
      rotate_left
      · (intro wS hSw; (try dsimp only at hSw); go_simp; try with_reducible rfl)
      try simp only [Act.put, nA, nB, nC]
      refine' wpAnyH_take (i := 3) (oi := ⟨some 29, .move (.tmp 7), 3, "law.go:63", #[⟨1, .guard⟩], some (1, true)⟩) rfl (by kernel_rfl) (by kernel_rfl) (by kernel_rfl) (fun _ _ _ h => h) (Or.inl ⟨by rfl, _⟩) (by assumption) _
      rotate_left
      · (intro wS hSw; (try dsimp only at hSw); go_simp; try with_reducible rfl)
      try simp only [Act.put, nA, nB, nC]
      refine' wpAnyH_take (i := 4) (oi := ⟨some 30, .indexAddr 32 (.tmp 28) (.tmp 29), 0, "law.go:63", #[⟨2, .data⟩, ⟨3, .data⟩, ⟨1, .guard⟩], some (1, true)⟩) rfl (by kernel_rfl) (by kernel_rfl) (by kernel_rfl) (fun _ _ _ h => h) (Or.inl ⟨by rfl, _⟩) (by assumption) _
      rotate_left
      · (intro wS hSw; (try dsimp only at hSw); go_simp; try with_reducible rfl)
      try simp only [Act.put, nA, nB, nC]
      refine' wpAnyH_take (i := 5) (oi := ⟨some 31, .load 23 (.tmp 30), 23, "law.go:63", #[⟨4, .data⟩, ⟨1, .guard⟩], some (1, true)⟩) rfl (by kernel_rfl) (by kernel_rfl) (by kernel_rfl) (fun _ _ _ h => h) (yieldsIf_loadRng (by rfl) _ rfl g (k * 32) rfl m HML.out (fun W hW => hW.2)) (by assumption) _
      (try simp only [Act.put, nA, nB, nC])
      refine' wpAnyH_take (i := 6) (oi := ⟨some 32, .move (.tmp 1), 32, "law.go:63", #[⟨1, .guard⟩], some (1, true)⟩) rfl (by kernel_rfl) (by kernel_rfl) (by kernel_rfl) (fun _ _ _ h => h) (Or.inl ⟨by rfl, _⟩) (by assumption) _
      rotate_left
      · (intro wS hSw; (try dsimp only at hSw); go_simp; try with_reducible rfl)
      try simp only [Act.put, nA, nB, nC]
      refine' wpAnyH_take (i := 7) (oi := ⟨some 33, .move (.tmp 7), 3, "law.go:63", #[⟨1, .guard⟩], some (1, true)⟩) rfl (by kernel_rfl) (by kernel_rfl) (by kernel_rfl) (fun _ _ _ h => h) (Or.inl ⟨by rfl, _⟩) (by assumption) _
      rotate_left
      · (intro wS hSw; (try dsimp only at hSw); go_simp; try with_reducible rfl)
      try simp only [Act.put, nA, nB, nC]
      refine' wpAnyH_take (i := 8) (oi := ⟨some 34, .indexAddr 32 (.tmp 32) (.tmp 33), 0, "law.go:63", #[⟨6, .data⟩, ⟨7, .data⟩, ⟨1, .guard⟩], some (1, true)⟩) rfl (by kernel_rfl) (by kernel_rfl) (by kernel_rfl) (fun _ _ _ h => h) (Or.inl ⟨by rfl, _⟩) (by assumption) _
      rotate_left
      · (intro wS hSw; (try dsimp only at hSw); go_simp; try with_reducible rfl)
      try simp only [Act.put, nA, nB, nC]
      refine' wpAnyH_take (i := 9) (oi := ⟨some 35, .load 23 (.tmp 34), 23, "law.go:63", #[⟨8, .data⟩, ⟨1, .guard⟩], some (1, true)⟩) rfl (by kernel_rfl) (by kernel_rfl) (by kernel_rfl) (fun _ _ _ h => h) (yieldsIf_loadRng (by rfl) _ rfl b (o + k * 32) rfl m HML.out (fun W hW => hW.1)) (by assumption) _
      (try simp only [Act.put, nA, nB, nC])
      refine' wpAnyH_take (i := 10) (oi := ⟨some 36, .binOp .eql 23 (.tmp 31) (.tmp 35) 23, 4, "law.go:63", #[⟨5, .data⟩, ⟨9, .data⟩, ⟨1, .guard⟩], some (1, true)⟩) rfl (by kernel_rfl) (by kernel_rfl) (by kernel_rfl) (fun _ _ _ h => h) (Or.inl ⟨by rfl, _⟩) (by assumption) _
      rotate_left
      · (intro wS hSw; (try dsimp only at hSw); go_simp; try with_reducible rfl)
      try simp only [Act.put, nA, nB, nC]
      refine' wpAnyH_take (i := 11) (oi := ⟨some 37, .pick (.tmp 27) (.tmp 36) (.const (.bool false)), 4, "law.go:63", #[⟨1, .data⟩, ⟨10, .data⟩], none⟩) rfl (by kernel_rfl) (by kernel_rfl) (by kernel_rfl) (fun _ _ _ h => h) (Or.inl ⟨by rfl, _⟩) (by assumption) _
      rotate_left
      · (intro wS hSw; (try dsimp only at hSw); go_simp; try with_reducible rfl)
      try simp only [Act.put, nA, nB, nC]
      refine' wpAnyH_take (i := 12) (oi := ⟨some 6, .assign (.tmp 37), 4, "law.go:63", #[⟨11, .data⟩, ⟨1, .chain⟩, ⟨0, .phase⟩, ⟨1, .phase⟩, ⟨2, .phase⟩, ⟨3, .phase⟩, ⟨4, .phase⟩, ⟨5, .phase⟩, ⟨6, .phase⟩, ⟨7, .phase⟩, ⟨8, .phase⟩, ⟨9, .phase⟩, ⟨10, .phase⟩, ⟨11, .phase⟩], none⟩) rfl (by kernel_rfl) (by kernel_rfl) (by kernel_rfl) (fun _ _ _ h => h) (Or.inl ⟨by rfl, _⟩) (by assumption) _
      rotate_left
      · (intro wS hSw; (try dsimp only at hSw); go_simp; try with_reducible rfl)
      try simp only [Act.put, nA, nB, nC]
      refine wpAnyH_done (by kernel_rfl) ?_ _
      clear hq hqg hHeld
      go_upto_region 7 with fail
      refine wp_region_list ?_
      with_reducible refine wpList_plain rfl ?_
      intro K hK
      go_simp
      first | with_reducible refine hK _ _ ?_ | refine hK _ _ ?_
      clear hK K
      (try simp only [Act.put, nA, nB, nC])
      with_reducible refine wpList_plain rfl ?_
      intro K hK
      go_simp
      first | with_reducible refine hK _ _ ?_ | refine hK _ _ ?_
      clear hK K
      (try simp only [Act.put, nA, nB, nC])
      refine wpList_built rfl 23 _ rfl _ (by simp; rfl) _ built_9 ?_
      (try simp only [Act.put, nA, nB, nC])
      with_reducible refine wpList_plain rfl ?_
      intro K hK
      go_simp
      first | with_reducible refine hK _ _ ?_ | refine hK _ _ ?_
      clear hK K
      (try simp only [Act.put, nA, nB, nC])
      set_option maxRecDepth 20000 in
      refine wpList_storeR rfl _ _ rfl (HO.out.drew : OwnR wr.drew B _ _) (keptL_all hA.out k) k HKL.out rfl mark9 mark9_len rfl ?_
      intro w2 ho2 hk2 hz2
      (try simp only [Act.put, nA, nB, nC])
      rw [keptL_set l k hlt] at ho2
      have HO2 := Lib.hid ho2
      have HB2 : Hid (Mod (fun k => k = g) w w2) := HB.out.drew.then (Mod.kept hk2 rfl)
      clear ho2 hk2 hz2
      go_wp2_with fail
      exact ⟨⟨k + 1, by omega, rfl, HO2, HB2, by go_num⟩, by simp [intOf]; omega⟩
    · have dk : decide (k < l.length) = false := decide_eq_false hlt
      have dk2 : decide ((k : Int) < (l.length : Int)) = false := decide_eq_false (by omega)
      go_wp2_with fail
      go_ret
      exact ⟨rfl, HB.out⟩
theorem UnS.size {n : Int} {s : Nat} {hd : Dg} {i : Nat} {a b : Dg} {p q : List Dg} {R : UnRes} (h : UnS n s hd i a b p q R) : R.1.size ≤ 105 ∧ R.2.1.size ≤ 105 := by
  rcases h with ⟨_, rfl⟩ | ⟨_, wd, k, xa, xb, ya, yb, rfl, hy, rfl⟩
  · decide
  · exact ⟨knotT_size _ _ _ hy.w2, knotT_size _ _ _ hy.w2⟩
theorem UnS.err {n : Int} {s : Nat} {hd : Dg} {i : Nat} {a b : Dg} {p q : List Dg} {R : UnRes} (h : UnS n s hd i a b p q R) : R.2.2 = 0 ∨ R.2.2 = 191 := by
  rcases h with ⟨_, rfl⟩ | ⟨_, wd, k, xa, xb, ya, yb, rfl, hy, rfl⟩
  · exact .inr rfl
  · exact .inl rfl
end Go.Proofs.Ytihbhpggpnmifaa

namespace Go.Proofs.Ytihbhpggpnmifaa
open Go.RowKit Go.Lib Hw
set_option linter.unusedVariables false

set_option maxRecDepth 4000 in
set_option maxHeartbeats 8000000 in
theorem RingsUnlike_walk (v0 v1 v2 v3 v4 v5 v6 : Value) (w : World) (h0 : IsI64 v0) (h1 : IsHead v1) (h2 : IsU64 v2) (h3 : IsDg v3) (h4 : IsDg v4) (h5 : IsDgs w v5) (h6 : IsDgs w v6) :
    Calls Try.prog 9 #[v0, v1, v2, v3, v4, v5, v6] w fun e w' => e = .returned (.bool true) ∧ Below w.heap.size w w' := by
  obtain ⟨n, rfl, hn1, hn2⟩ := h0
  obtain ⟨s, hd, rfl, hs, hdl⟩ := h1
  obtain ⟨i, rfl, hi⟩ := h2
  obtain ⟨a, rfl, hal⟩ := h3
  obtain ⟨b, rfl, hbl⟩ := h4
  obtain ⟨p, hpr, hpn, hpl⟩ := h5
  obtain ⟨q, hqr, hqn, hql⟩ := h6
  obtain ⟨R, hR⟩ := unS_any n s hd i a b p q hal hbl hpr.1 hqr.1
  have HU := Lib.hid (fun w => Unlike_any n s i hd a b · · p q w R hR hdl hal hbl)
  have HV := Lib.hid (fun w => refUnlike_any n s i hd a b · · p q w R hR hdl hal hbl)
  have hsz := hR.size
  have hcl := hR.clash
  have her := hR.err
  have Hd := Lib.hid hdl
  have Ha := Lib.hid hal
  have Hb := Lib.hid hbl
  have HP := Lib.hid hpr
  have HPn := Lib.hid hpn
  have HQ := Lib.hid hqr
  have HQn := Lib.hid hqn
  have hAp : Hid (All32 p) := hpr.1
  have hAq : Hid (All32 q) := hqr.1
  obtain ⟨_, adp, cp, rfl, _⟩ := hpr
  obtain ⟨_, adq, cq, rfl, _⟩ := hqr
  clear hdl hal hbl hpn hqn hR
  obtain ⟨X, Y, E⟩ := R
  dsimp only at hsz hcl her HU HV
  obtain ⟨N, hN⟩ : ∃ N, w.heap.size = N := ⟨_, rfl⟩
  rw [hN] at HP HQ ⊢
  have HN := Lib.hid hN
  have HSz := Lib.hid hsz
  have HCl := Lib.hid hcl
  have HEr := Lib.hid her
  clear hN hsz hcl her
  go_enter Try.func9, Try.ntmps9
  go_upto_region 0 with fail
  refine wp_region_list ?_
  refine wpList_boxB rfl _ _ rfl N HN.out (hcs s hd).toArray rfl ?_
  intro w0 e0 b0 z0
  (try simp only [Act.put, nA, nB, nC])
  refine wpList_boxD rfl _ rfl a rfl (N + 1) z0 ?_
  intro w1 e1 b1 z1
  (try simp only [Act.put, nA, nB, nC])
  refine wpList_boxD rfl _ rfl b rfl (N + 2) z1 ?_
  intro w2 e2 b2 z2
  (try simp only [Act.put, nA, nB, nC])
  with_reducible refine wpList_plain rfl ?_
  intro K hK
  go_simp
  first | with_reducible refine hK _ _ ?_ | refine hK _ _ ?_
  clear hK K
  (try simp only [Act.put, nA, nB, nC])
  have F2 : Hid (UB w w2 N s hd a b) := ⟨heap_below (heap_below e0 b1 (by omega)) b2 (by omega), heap_below e1 b2 (by omega), e2, (b0.trans (b1.mono (by omega))).trans (b2.mono (by omega))⟩
  clear e0 b0 z0 e1 b1 z1 e2 b2
  have HP2 := Lib.hid ((HP.out.low F2.out.bl (by rw [HN.out]; exact Nat.le_refl _)).mono (lim' := w2.heap.size) (by omega))
  go_upto_region 1 with fail
  refine wp_region_list ?_
  with_reducible refine wpList_plain rfl ?_
  intro K hK
  go_simp
  first | with_reducible refine hK _ _ ?_ | refine hK _ _ ?_
  clear hK K
  (try simp only [Act.put, nA, nB, nC])
  with_reducible refine wpList_plain rfl ?_
  intro K hK
  go_simp
  refine (lentDigests_any _ p w2 _ HP2 HPn.out hpl).mono ?_; rintro e w3 ⟨g, cap, rfl, ho, hb⟩
  first | with_reducible refine hK _ _ ?_ | refine hK _ _ ?_
  clear hK K
  (try simp only [Act.put, nA, nB, nC])
  have hgl := ho.lt g rfl
  have hz3 := hb.size
  rw [z2] at ho hb hgl hz3
  have O3 := Lib.hid ho
  have F3 := Lib.hid (F2.out.low hb (by omega))
  clear ho hb F2 HP2
  have HQ3 := Lib.hid ((HQ.out.low F3.out.bl (by rw [HN.out]; exact Nat.le_refl _)).mono (lim' := w3.heap.size) (by omega))
  with_reducible refine wpList_plain rfl ?_
  intro K hK
  go_simp
  first | with_reducible refine hK _ _ ?_ | refine hK _ _ ?_
  clear hK K
  (try simp only [Act.put, nA, nB, nC])
  with_reducible refine wpList_plain rfl ?_
  intro K hK
  go_simp
  refine (lentDigests_any _ q w3 _ HQ3 HQn.out hql).mono ?_; rintro e w4 ⟨g', cap', rfl, ho, hb⟩
  first | with_reducible refine hK _ _ ?_ | refine hK _ _ ?_
  clear hK K
  (try simp only [Act.put, nA, nB, nC])
  have hgl' := ho.lt g' rfl
  have hz4 := hb.size
  have O4 := Lib.hid (O3.out.below hb (fun k hk => by have e : g = k := Option.some.inj hk; have := hgl.2; omega))
  have P4 := Lib.hid (ho.mono (C := N + 3) (by omega))
  have F4 := Lib.hid (F3.out.low hb (by omega))
  have hgg : g < g' := by have := hgl'.1; have := hgl.2; omega
  have hg4 : g < w4.heap.size ∧ g' < w4.heap.size := ⟨by have := hgl.2; omega, hgl'.2⟩
  have hgN : N + 3 ≤ g := hgl.1
  clear ho hb F3 HQ3 O3 hgl hgl'
  with_reducible refine wpList_plain rfl ?_
  intro K hK
  go_simp
  first | with_reducible refine hK _ _ ?_ | refine hK _ _ ?_
  clear hK K
  (try simp only [Act.put, nA, nB, nC])
  with_reducible refine wpList_plain rfl ?_
  intro K hK
  go_simp
  first | with_reducible refine hK _ _ ?_ | refine hK _ _ ?_
  clear hK K
  (try simp only [Act.put, nA, nB, nC])
  go_upto_region 2 with fail
  refine wp_region_list ?_
  with_reducible refine wpList_plain rfl ?_
  intro K hK
  go_simp
  first | with_reducible refine hK _ _ ?_ | refine hK _ _ ?_
  clear hK K
  (try simp only [Act.put, nA, nB, nC])
  refine wpList_loadH rfl _ rfl N rfl s hd Hd.out F4.out.bh ?_
  (try simp only [Act.put, nA, nB, nC])
  with_reducible refine wpList_plain rfl ?_
  intro K hK
  go_simp
  first | with_reducible refine hK _ _ ?_ | refine hK _ _ ?_
  clear hK K
  (try simp only [Act.put, nA, nB, nC])
  refine wpList_loadD rfl _ rfl (N + 1) rfl a Ha.out F4.out.ba ?_
  (try simp only [Act.put, nA, nB, nC])
  refine wpList_loadD rfl _ rfl (N + 2) rfl b Hb.out F4.out.bb ?_
  (try simp only [Act.put, nA, nB, nC])
  with_reducible refine wpList_plain rfl ?_
  intro K hK
  go_simp
  first | with_reducible refine hK _ _ ?_ | refine hK _ _ ?_
  clear hK K
  (try simp only [Act.put, nA, nB, nC])
  with_reducible refine wpList_plain rfl ?_
  intro K hK
  go_simp
  first | with_reducible refine hK _ _ ?_ | refine hK _ _ ?_
  clear hK K
  (try simp only [Act.put, nA, nB, nC])
  with_reducible refine wpList_plain rfl ?_
  intro K hK
  go_simp
  refine (HU.out _ _ w4 (Lib.hid (O4.out.front hAp.out mark7_len hpl)) (Lib.hid (P4.out.front hAq.out mark7_len hql)) hs hi).mono ?_; rintro e w5 ⟨rfl, hb⟩
  first | with_reducible refine hK _ _ ?_ | refine hK _ _ ?_
  clear hK K
  (try simp only [Act.put, nA, nB, nC])
  have hz5 := hb.size
  have O5 := Lib.hid (O4.out.below hb (fun k hk => by have e : g = k := Option.some.inj hk; omega))
  have P5 := Lib.hid (P4.out.below hb (fun k hk => by have e : g' = k := Option.some.inj hk; omega))
  have F5 := Lib.hid (F4.out.low hb F4.out.big)
  clear hb O4 P4 F4
  with_reducible refine wpList_plain rfl ?_
  intro K hK
  go_simp
  first | with_reducible refine hK _ _ ?_ | refine hK _ _ ?_
  clear hK K
  (try simp only [Act.put, nA, nB, nC])
  with_reducible refine wpList_plain rfl ?_
  intro K hK
  go_simp
  first | with_reducible refine hK _ _ ?_ | refine hK _ _ ?_
  clear hK K
  (try simp only [Act.put, nA, nB, nC])
  with_reducible refine wpList_plain rfl ?_
  intro K hK
  go_simp
  first | with_reducible refine hK _ _ ?_ | refine hK _ _ ?_
  clear hK K
  (try simp only [Act.put, nA, nB, nC])
  with_reducible refine wpList_plain rfl ?_
  intro K hK
  go_simp
  first | with_reducible refine hK _ _ ?_ | refine hK _ _ ?_
  clear hK K
  (try simp only [Act.put, nA, nB, nC])
  with_reducible refine wpList_plain rfl ?_
  intro K hK
  go_simp
  first | with_reducible refine hK _ _ ?_ | refine hK _ _ ?_
  clear hK K
  (try simp only [Act.put, nA, nB, nC])
  with_reducible refine wpList_plain rfl ?_
  intro K hK
  go_simp
  first | with_reducible refine hK _ _ ?_ | refine hK _ _ ?_
  clear hK K
  (try simp only [Act.put, nA, nB, nC])
  with_reducible refine wpList_plain rfl ?_
  intro K hK
  go_simp
  first | with_reducible refine hK _ _ ?_ | refine hK _ _ ?_
  clear hK K
  (try simp only [Act.put, nA, nB, nC])
  have HP5 := Lib.hid ((HP.out.low F5.out.bl (by rw [HN.out]; exact Nat.le_refl _)).mono (lim' := w5.heap.size) (by omega))
  have HQ5 := Lib.hid ((HQ.out.low F5.out.bl (by rw [HN.out]; exact Nat.le_refl _)).mono (lim' := w5.heap.size) (by omega))
  go_upto_region 3 with fail
  refine wp_region_list ?_
  with_reducible refine wpList_plain rfl ?_
  intro K hK
  go_simp
  first | with_reducible refine hK _ _ ?_ | refine hK _ _ ?_
  clear hK K
  (try simp only [Act.put, nA, nB, nC])
  refine wpList_loadH rfl _ rfl N rfl s hd Hd.out F5.out.bh ?_
  (try simp only [Act.put, nA, nB, nC])
  with_reducible refine wpList_plain rfl ?_
  intro K hK
  go_simp
  first | with_reducible refine hK _ _ ?_ | refine hK _ _ ?_
  clear hK K
  (try simp only [Act.put, nA, nB, nC])
  refine wpList_loadD rfl _ rfl (N + 1) rfl a Ha.out F5.out.ba ?_
  (try simp only [Act.put, nA, nB, nC])
  refine wpList_loadD rfl _ rfl (N + 2) rfl b Hb.out F5.out.bb ?_
  (try simp only [Act.put, nA, nB, nC])
  with_reducible refine wpList_plain rfl ?_
  intro K hK
  go_simp
  first | with_reducible refine hK _ _ ?_ | refine hK _ _ ?_
  clear hK K
  (try simp only [Act.put, nA, nB, nC])
  with_reducible refine wpList_plain rfl ?_
  intro K hK
  go_simp
  first | with_reducible refine hK _ _ ?_ | refine hK _ _ ?_
  clear hK K
  (try simp only [Act.put, nA, nB, nC])
  with_reducible refine wpList_plain rfl ?_
  intro K hK
  go_simp
  refine (HV.out _ _ w5 HP5 HQ5 hs hi).mono ?_; rintro e w6 ⟨rfl, hb⟩
  first | with_reducible refine hK _ _ ?_ | refine hK _ _ ?_
  clear hK K
  (try simp only [Act.put, nA, nB, nC])
  have hz6 := hb.size
  have O6 := Lib.hid (O5.out.below hb (fun k hk => by have e : g = k := Option.some.inj hk; omega))
  have P6 := Lib.hid (P5.out.below hb (fun k hk => by have e : g' = k := Option.some.inj hk; omega))
  have HB6 := Lib.hid (F5.out.bl.trans (hb.mono (by omega)))
  clear hb O5 P5 F5 HP5 HQ5
  with_reducible refine wpList_plain rfl ?_
  intro K hK
  go_simp
  first | with_reducible refine hK _ _ ?_ | refine hK _ _ ?_
  clear hK K
  (try simp only [Act.put, nA, nB, nC])
  with_reducible refine wpList_plain rfl ?_
  intro K hK
  go_simp
  first | with_reducible refine hK _ _ ?_ | refine hK _ _ ?_
  clear hK K
  (try simp only [Act.put, nA, nB, nC])
  with_reducible refine wpList_plain rfl ?_
  intro K hK
  go_simp
  first | with_reducible refine hK _ _ ?_ | refine hK _ _ ?_
  clear hK K
  (try simp only [Act.put, nA, nB, nC])
  with_reducible refine wpList_plain rfl ?_
  intro K hK
  go_simp
  first | with_reducible refine hK _ _ ?_ | refine hK _ _ ?_
  clear hK K
  (try simp only [Act.put, nA, nB, nC])
  with_reducible refine wpList_plain rfl ?_
  intro K hK
  go_simp
  first | with_reducible refine hK _ _ ?_ | refine hK _ _ ?_
  clear hK K
  (try simp only [Act.put, nA, nB, nC])
  with_reducible refine wpList_plain rfl ?_
  intro K hK
  go_simp
  first | with_reducible refine hK _ _ ?_ | refine hK _ _ ?_
  clear hK K
  (try simp only [Act.put, nA, nB, nC])
  with_reducible refine wpList_plain rfl ?_
  intro K hK
  go_simp
  first | with_reducible refine hK _ _ ?_ | refine hK _ _ ?_
  clear hK K
  (try simp only [Act.put, nA, nB, nC])
  have HP6 := Lib.hid (HP.out.low HB6.out (by rw [HN.out]; exact Nat.le_refl _))
  have hx1 : (X.toList == X.toList) = true := beq_self_eq_true _
  have hx2 : (Y.toList == Y.toList) = true := beq_self_eq_true _
  have hx3 : ((E : Int) == (E : Int)) = true := beq_self_eq_true _
  go_upto_region 4 with fail
  refine wp_region_list ?_
  with_reducible refine wpList_plain rfl ?_
  intro K hK
  go_simp
  first | with_reducible refine hK _ _ ?_ | refine hK _ _ ?_
  clear hK K
  (try simp only [Act.put, nA, nB, nC])
  with_reducible refine wpList_plain rfl ?_
  intro K hK
  go_simp
  first | with_reducible refine hK _ _ ?_ | refine hK _ _ ?_
  clear hK K
  (try simp only [Act.put, nA, nB, nC])
  with_reducible refine wpList_plain rfl ?_
  intro K hK
  go_simp
  first | with_reducible refine hK _ _ ?_ | refine hK _ _ ?_
  clear hK K
  (try simp only [Act.put, nA, nB, nC])
  with_reducible refine wpList_plain rfl ?_
  intro K hK
  go_simp
  first | with_reducible refine hK _ _ ?_ | refine hK _ _ ?_
  clear hK K
  (try simp only [Act.put, nA, nB, nC])
  with_reducible refine wpList_step ?_
  intro K hK
  rw [if_pos (by rfl)]
  go_simp
  first | with_reducible refine hK _ _ ?_ | refine hK _ _ ?_
  clear hK K
  (try simp only [Act.put, nA, nB, nC])
  with_reducible refine wpList_step ?_
  intro K hK
  rw [if_pos (by rfl)]
  go_simp
  first | with_reducible refine hK _ _ ?_ | refine hK _ _ ?_
  clear hK K
  (try simp only [Act.put, nA, nB, nC])
  with_reducible refine wpList_step ?_
  intro K hK
  rw [if_pos (by rfl)]
  go_simp
  first | with_reducible refine hK _ _ ?_ | refine hK _ _ ?_
  clear hK K
  (try simp only [Act.put, nA, nB, nC])
  with_reducible refine wpList_plain rfl ?_
  intro K hK
  go_simp
  first | with_reducible refine hK _ _ ?_ | refine hK _ _ ?_
  clear hK K
  (try simp only [Act.put, nA, nB, nC])
  with_reducible refine wpList_plain rfl ?_
  intro K hK
  go_simp
  first | with_reducible refine hK _ _ ?_ | refine hK _ _ ?_
  clear hK K
  (try simp only [Act.put, nA, nB, nC])
  with_reducible refine wpList_step ?_
  intro K hK
  rw [if_pos (by rfl)]
  go_simp
  first | with_reducible refine hK _ _ ?_ | refine hK _ _ ?_
  clear hK K
  (try simp only [Act.put, nA, nB, nC])
  with_reducible refine wpList_step ?_
  intro K hK
  rw [if_pos (by rfl)]
  go_simp
  first | with_reducible refine hK _ _ ?_ | refine hK _ _ ?_
  clear hK K
  (try simp only [Act.put, nA, nB, nC])
  with_reducible refine wpList_step ?_
  intro K hK
  rw [if_pos (by rfl)]
  go_simp
  first | with_reducible refine hK _ _ ?_ | refine hK _ _ ?_
  clear hK K
  (try simp only [Act.put, nA, nB, nC])
  with_reducible refine wpList_plain rfl ?_
  intro K hK
  go_simp
  first | with_reducible refine hK _ _ ?_ | refine hK _ _ ?_
  clear hK K
  (try simp only [Act.put, nA, nB, nC])
  with_reducible refine wpList_plain rfl ?_
  intro K hK
  go_simp
  first | with_reducible refine hK _ _ ?_ | refine hK _ _ ?_
  clear hK K
  (try simp only [Act.put, nA, nB, nC])
  with_reducible refine wpList_step ?_
  intro K hK
  rw [if_pos (by rfl)]
  go_simp
  first | with_reducible refine hK _ _ ?_ | refine hK _ _ ?_
  clear hK K
  (try simp only [Act.put, nA, nB, nC])
  with_reducible refine wpList_step ?_
  intro K hK
  rw [if_pos (by rfl)]
  go_simp
  first | with_reducible refine hK _ _ ?_ | refine hK _ _ ?_
  clear hK K
  (try simp only [Act.put, nA, nB, nC])
  with_reducible refine wpList_step ?_
  intro K hK
  rw [if_pos (by rfl)]
  go_simp
  refine (keptDigests_mod g cap _ p w6 (N + 3) N O6 HP6 (by omega) (by omega) p.length hpl).mono ?_; rintro e w7 ⟨rfl, hm⟩
  first | with_reducible refine hK _ _ ?_ | refine hK _ _ ?_
  clear hK K
  (try simp only [Act.put, nA, nB, nC])
  have hz7 := hm.size
  have P7 := Lib.hid (P6.out.mod hm (fun k hk e => by have e2 : g' = k := Option.some.inj hk; omega))
  have HB7 := Lib.hid (HB6.out.trans (hm.below (n := N) (fun k hk e => by omega) (by omega)))
  clear hm O6 P6 HB6 HP6
  have HQ7 := Lib.hid (HQ.out.low HB7.out (by rw [HN.out]; exact Nat.le_refl _))
  with_reducible refine wpList_step ?_
  intro K hK
  rw [if_pos (by rfl)]
  go_simp
  first | with_reducible refine hK _ _ ?_ | refine hK _ _ ?_
  clear hK K
  (try simp only [Act.put, nA, nB, nC])
  with_reducible refine wpList_plain rfl ?_
  intro K hK
  go_simp
  first | with_reducible refine hK _ _ ?_ | refine hK _ _ ?_
  clear hK K
  (try simp only [Act.put, nA, nB, nC])
  with_reducible refine wpList_plain rfl ?_
  intro K hK
  go_simp
  first | with_reducible refine hK _ _ ?_ | refine hK _ _ ?_
  clear hK K
  (try simp only [Act.put, nA, nB, nC])
  with_reducible refine wpList_step ?_
  intro K hK
  rw [if_pos (by rfl)]
  go_simp
  first | with_reducible refine hK _ _ ?_ | refine hK _ _ ?_
  clear hK K
  (try simp only [Act.put, nA, nB, nC])
  with_reducible refine wpList_step ?_
  intro K hK
  rw [if_pos (by rfl)]
  go_simp
  first | with_reducible refine hK _ _ ?_ | refine hK _ _ ?_
  clear hK K
  (try simp only [Act.put, nA, nB, nC])
  with_reducible refine wpList_step ?_
  intro K hK
  rw [if_pos (by rfl)]
  go_simp
  refine (keptDigests_any g' cap' _ q w7 (N + 3) N P7 HQ7 (by omega) (by omega) q.length hql).mono ?_; rintro e w8 ⟨rfl, hb⟩
  first | with_reducible refine hK _ _ ?_ | refine hK _ _ ?_
  clear hK K
  (try simp only [Act.put, nA, nB, nC])
  have hz8 := hb.size
  have HB8 := Lib.hid (HB7.out.trans (hb.mono (by omega)))
  clear hb P7 HB7 HQ7
  with_reducible refine wpList_step ?_
  intro K hK
  rw [if_pos (by rfl)]
  go_simp
  first | with_reducible refine hK _ _ ?_ | refine hK _ _ ?_
  clear hK K
  (try simp only [Act.put, nA, nB, nC])
  with_reducible refine wpList_plain rfl ?_
  intro K hK
  go_simp
  first | with_reducible refine hK _ _ ?_ | refine hK _ _ ?_
  clear hK K
  (try simp only [Act.put, nA, nB, nC])
  clear hx1 hx2 hx3
  rcases HEr.out with hE | hE
  · have hcl := HCl.out hE
    subst hE
    go_upto_region 6 with fail
    refine wp_region_list ?_
    with_reducible refine wpList_plain rfl ?_
    intro K hK
    go_simp
    first | with_reducible refine hK _ _ ?_ | refine hK _ _ ?_
    clear hK K
    (try simp only [Act.put, nA, nB, nC])
    with_reducible refine wpList_plain rfl ?_
    intro K hK
    go_simp
    first | with_reducible refine hK _ _ ?_ | refine hK _ _ ?_
    clear hK K
    (try simp only [Act.put, nA, nB, nC])
    with_reducible refine wpList_plain rfl ?_
    intro K hK
    go_simp
    first | with_reducible refine hK _ _ ?_ | refine hK _ _ ?_
    clear hK K
    (try simp only [Act.put, nA, nB, nC])
    with_reducible refine wpList_step ?_
    intro K hK
    rw [if_pos (by rfl)]
    go_simp
    first | with_reducible refine hK _ _ ?_ | refine hK _ _ ?_
    clear hK K
    (try simp only [Act.put, nA, nB, nC])
    with_reducible refine wpList_step ?_
    intro K hK
    rw [if_pos (by rfl)]
    go_simp
    first | with_reducible refine hK _ _ ?_ | refine hK _ _ ?_
    clear hK K
    (try simp only [Act.put, nA, nB, nC])
    with_reducible refine wpList_step ?_
    intro K hK
    rw [if_pos (by rfl)]
    go_simp
    first | with_reducible refine hK _ _ ?_ | refine hK _ _ ?_
    clear hK K
    (try simp only [Act.put, nA, nB, nC])
    with_reducible refine wpList_step ?_
    intro K hK
    rw [if_pos (by rfl)]
    go_simp
    refine (refClash_any n X Y w8 (by have := HSz.out.1; omega) (by have := HSz.out.2; omega)).mono ?_; rintro e w9 ⟨rfl, hb⟩; rw [hcl]
    first | with_reducible refine hK _ _ ?_ | refine hK _ _ ?_
    clear hK K
    (try simp only [Act.put, nA, nB, nC])
    have HB9 := Lib.hid (HB8.out.trans (hb.mono (by omega)))
    clear hb HB8 hcl
    with_reducible refine wpList_plain rfl ?_
    intro K hK
    go_simp
    first | with_reducible refine hK _ _ ?_ | refine hK _ _ ?_
    clear hK K
    (try simp only [Act.put, nA, nB, nC])
    with_reducible refine wpList_plain rfl ?_
    intro K hK
    go_simp
    first | with_reducible refine hK _ _ ?_ | refine hK _ _ ?_
    clear hK K
    (try simp only [Act.put, nA, nB, nC])
    with_reducible refine wpList_step ?_
    intro K hK
    rw [if_pos (by rfl)]
    go_simp
    refine (lives_any _).mono ?_; rintro e wa ⟨rfl, hb⟩
    first | with_reducible refine hK _ _ ?_ | refine hK _ _ ?_
    clear hK K
    (try simp only [Act.put, nA, nB, nC])
    have HBa := Lib.hid (HB9.out.trans (hb.mono (by have := HB9.out.size; have := HN.out; omega)))
    clear hb HB9
    with_reducible refine wpList_plain rfl ?_
    intro K hK
    go_simp
    first | with_reducible refine hK _ _ ?_ | refine hK _ _ ?_
    clear hK K
    (try simp only [Act.put, nA, nB, nC])
    with_reducible refine wpList_plain rfl ?_
    intro K hK
    go_simp
    first | with_reducible refine hK _ _ ?_ | refine hK _ _ ?_
    clear hK K
    (try simp only [Act.put, nA, nB, nC])
    go_wp2_with fail
    go_ret
    exact ⟨rfl, HBa.out⟩
  · subst hE
    go_upto_region 6 with fail
    refine wp_region_list ?_
    with_reducible refine wpList_plain rfl ?_
    intro K hK
    go_simp
    first | with_reducible refine hK _ _ ?_ | refine hK _ _ ?_
    clear hK K
    (try simp only [Act.put, nA, nB, nC])
    with_reducible refine wpList_plain rfl ?_
    intro K hK
    go_simp
    first | with_reducible refine hK _ _ ?_ | refine hK _ _ ?_
    clear hK K
    (try simp only [Act.put, nA, nB, nC])
    with_reducible refine wpList_plain rfl ?_
    intro K hK
    go_simp
    first | with_reducible refine hK _ _ ?_ | refine hK _ _ ?_
    clear hK K
    (try simp only [Act.put, nA, nB, nC])
    with_reducible refine wpList_step ?_
    intro K hK
    rw [if_neg (Bool.eq_false_iff.1 (by rfl))]
    first | with_reducible refine hK _ _ ?_ | refine hK _ _ ?_
    clear hK K
    (try simp only [Act.put, nA, nB, nC])
    with_reducible refine wpList_step ?_
    intro K hK
    rw [if_neg (Bool.eq_false_iff.1 (by rfl))]
    first | with_reducible refine hK _ _ ?_ | refine hK _ _ ?_
    clear hK K
    (try simp only [Act.put, nA, nB, nC])
    with_reducible refine wpList_step ?_
    intro K hK
    rw [if_neg (Bool.eq_false_iff.1 (by rfl))]
    first | with_reducible refine hK _ _ ?_ | refine hK _ _ ?_
    clear hK K
    (try simp only [Act.put, nA, nB, nC])
    with_reducible refine wpList_step ?_
    intro K hK
    rw [if_neg (Bool.eq_false_iff.1 (by rfl))]
    first | with_reducible refine hK _ _ ?_ | refine hK _ _ ?_
    clear hK K
    (try simp only [Act.put, nA, nB, nC])
    with_reducible refine wpList_plain rfl ?_
    intro K hK
    go_simp
    first | with_reducible refine hK _ _ ?_ | refine hK _ _ ?_
    clear hK K
    (try simp only [Act.put, nA, nB, nC])
    with_reducible refine wpList_plain rfl ?_
    intro K hK
    go_simp
    first | with_reducible refine hK _ _ ?_ | refine hK _ _ ?_
    clear hK K
    (try simp only [Act.put, nA, nB, nC])
    with_reducible refine wpList_step ?_
    intro K hK
    rw [if_pos (by rfl)]
    go_simp
    refine (lives_any _).mono ?_; rintro e wa ⟨rfl, hb⟩
    first | with_reducible refine hK _ _ ?_ | refine hK _ _ ?_
    clear hK K
    (try simp only [Act.put, nA, nB, nC])
    have HBa := Lib.hid (HB8.out.trans (hb.mono (by omega)))
    clear hb HB8
    with_reducible refine wpList_plain rfl ?_
    intro K hK
    go_simp
    first | with_reducible refine hK _ _ ?_ | refine hK _ _ ?_
    clear hK K
    (try simp only [Act.put, nA, nB, nC])
    with_reducible refine wpList_plain rfl ?_
    intro K hK
    go_simp
    first | with_reducible refine hK _ _ ?_ | refine hK _ _ ?_
    clear hK K
    (try simp only [Act.put, nA, nB, nC])
    go_wp2_with fail
    go_ret
    exact ⟨rfl, HBa.out⟩
end Go.Proofs.Ytihbhpggpnmifaa

