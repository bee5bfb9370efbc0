/-
  Rows of uint64; the walks of parts and wide.
-/
import Derived.Test.YtmjikebbknjahaaRootP
import Derived.Test.YtmjikebbknjahaaCutW
import Derived.BigQuiet
import Derived.Laws.Bits64
namespace Go.Proofs.Ytmjikebbknjahaa
open Go.RowKit Go.Lib Hw
set_option linter.unusedVariables false

def nv64 (x : Nat) : Value := .int .u64 (x : Int)
theorem info_u64 : (Try.prog.info? 102).map (fun i => (i.zero, i.size, i.bytes)) = some (some (.int .u64 0), 1, 8) := by kernel_rfl
/-- a block of numbers, known whole -/
def NBk (w : World) (b : Nat) (xs : List Nat) : Prop := w.heap[b]? = some (.cells (xs.map nv64).toArray 102 (0, 0))
/-- a slice that reads as some numbers -/
def NRw (w : World) (v : Value) (xs : List Nat) : Prop := ∃ g cap, v = .slice (some ⟨g, 0, none⟩) xs.length cap ∧ g < w.heap.size ∧ ∀ j (h : j < xs.length), w.cell? ⟨g, j, none⟩ = some (.int .u64 (xs[j] : Int))
section
variable {w w' : World} {b : Nat} {xs : List Nat} {v : Value}
theorem NBk.cell (h : NBk w b xs) (j : Nat) (hj : j < xs.length) : w.cell? ⟨b, j, none⟩ = some (.int .u64 (xs[j] : Int)) := by rw [heap_cell h]; simp [hj, nv64]
theorem NBk.free (h : NBk w b xs) (j : Nat) : w.frozen? ⟨b, j, none⟩ = false := heap_free h j
theorem NBk.set (h : NBk w b xs) (j x : Nat) : NBk (w.setCell ⟨b, j, none⟩ (.int .u64 (x : Int))) b (xs.set j x) := by
  unfold NBk
  have h1 := heap_set (o := j) h (.int .u64 (x : Int))
  rw [List.map_set, ← List.setIfInBounds_toArray]
  exact h1
theorem NBk.row (h : NBk w b xs) (cap : Nat) : NRw w (.slice (some ⟨b, 0, none⟩) xs.length cap) xs := ⟨b, cap, rfl, heap_lt h, fun j hj => h.cell j hj⟩
theorem NRw.below (h : NRw w v xs) (hb : Below w.heap.size w w') : NRw w' v xs := by
  obtain ⟨g, cap, rfl, hg, hc⟩ := h
  exact ⟨g, cap, rfl, Nat.lt_of_lt_of_le hg hb.size, fun j hj => cellB hb hg (hc j hj)⟩
theorem NRw.drew (h : NRw w v xs) : NRw w.drew v xs := h
end
theorem and_low (x : Nat) (hx : x < 18446744073709551616) : bits .and .u64 (x : Int) 4294967295 = ((x % 4294967296 : Nat) : Int) := by
  have h1 : (BitVec.ofInt 64 (x : Int)).toNat = x := by
    rw [BitVec.ofInt_natCast, BitVec.toNat_ofNat]; exact Nat.mod_eq_of_lt (by omega)
  have h2 : (BitVec.ofInt 64 (4294967295 : Int)).toNat = 2 ^ 32 - 1 := by decide
  show IntKind.u64.wrap ((BitVec.ofInt 64 (x : Int) &&& BitVec.ofInt 64 (4294967295 : Int)).toNat : Int) = _
  rw [BitVec.toNat_and, h1, h2, Nat.and_two_pow_sub_one_eq_mod, IntKind.wrap_u64]
  omega

set_option maxHeartbeats 1000000 in
theorem parts_any (x : Nat) (w : World) (hx : x < 18446744073709551616) :
    Calls Try.prog 87 #[.int .u64 (x : Int)] w fun e w' => ∃ v, e = .returned v ∧ NRw w' v (partsL x) ∧ Below w.heap.size w w' := by
  obtain ⟨lo, hlo⟩ : ∃ lo, x % 4294967296 = lo := ⟨_, rfl⟩
  obtain ⟨hi, hhi⟩ : ∃ hi, x / 4294967296 = hi := ⟨_, rfl⟩
  have h1 : bits .and .u64 (x : Int) 4294967295 = (lo : Int) := by rw [and_low x hx, hlo]
  have h2 : (x : Int) / 4294967296 = (hi : Int) := by omega
  have hp : partsL x = [lo, hi] := by rw [partsL, hlo, hhi]
  rw [hp]
  clear hlo hhi hp
  go_enter Try.func87, Try.ntmps87
  go_wp2_with fail
  go_ret
  refine ⟨_, rfl, ?_, (Below.refl _ _).alloc (Nat.le_refl _) _⟩
  have hb : NBk (w.alloc (.cells #[.int .u64 (lo : Int), .int .u64 (hi : Int)] 102)) w.heap.size [lo, hi] := heap_alloc_new w _
  exact hb.row 2

theorem run_makeV (m : Nat) (hm : m ≤ 1000000) (w : World) :
    (Instr.makeSlice 105 (.int .i64 (m : Int)) (.int .i64 (m : Int))).run Try.prog w = .ok (.slice (some ⟨w.heap.size, 0, none⟩) m m) (w.alloc (.cells ((List.replicate m 0).map nv64).toArray 102)) := by
  obtain ⟨i, hi, hz0, hz1, hz2⟩ := info_parts info_u64
  have h := run_make (P := Try.prog) w 105 102 i (.int .u64 0) Try.underlying105 hi hz0 .i64 .i64 (m : Int) (m : Int) (by omega) (by omega) (by rw [hz2]; omega) (by omega)
  rw [h, hz1]
  have e : (madeCells (#[.int .u64 0] : Array Value) m) = ((List.replicate m 0).map nv64).toArray := by
    apply Array.toList_inj.1
    unfold madeCells
    apply List.ext_getElem
    · simp
    · intro i h1 h2
      simp [Nat.mod_one, nv64]
  simp [Value.cells, e]
theorem made_N (w : World) (a b : List Nat) : NBk (w.alloc (.cells (Array.replicate (a.length + b.length) (nv64 0)) 102)) w.heap.size (wideN a b 0) := by
  have e : ((wideN a b 0).map nv64).toArray = Array.replicate (a.length + b.length) (nv64 0) := by unfold wideN; rw [List.map_replicate, List.toArray_replicate]
  unfold NBk
  rw [e]
  exact heap_alloc_new w _
theorem wideIn_length (ai i : Nat) (b : List Nat) (s : List Nat × Nat) (k : Nat) : (wideIn ai i b k s).1.length = s.1.length := by
  induction k with
  | zero => rfl
  | succ k ih => rw [wideIn, wideStep]; simp only [List.length_set]; exact ih
theorem wideN_length (a b : List Nat) (i : Nat) : (wideN a b i).length = a.length + b.length := by
  induction i with
  | zero => simp [wideN]
  | succ i ih => rw [wideN]; simp only [List.length_set, wideIn_length]; exact ih

set_option maxHeartbeats 4000000 in
theorem wide2_any (va vb : Value) (a b : List Nat) (w : World) (ha : NRw w va a) (hb : NRw w vb b) (hla : a.length ≤ 1000) (hlb : b.length ≤ 1000) :
    Calls Try.prog 86 #[va, vb] w fun e w' => ∃ v, e = .returned v ∧ NRw w' v (wideL a b) ∧ Below w.heap.size w w' := by
  obtain ⟨ga, ca, rfl, hga, hac⟩ := ha
  obtain ⟨gb, cb, rfl, hgb, hbc⟩ := hb
  have HA := Lib.hid hac
  have HBc := Lib.hid hbc
  have hmk := run_makeV (a.length + b.length) (by omega) w
  have hcast : ((a.length + b.length : Nat) : Int) = (a.length : Int) + (b.length : Int) := by omega
  rw [hcast] at hmk
  clear hac hbc hcast
  go_enter Try.func86, Try.ntmps86
  go_upto_region 2 with fail
  refine wp_name (fun W => Hid (NBk W w.heap.size (wideN a b 0)) ∧ Hid (Below w.heap.size w W)) ⟨made_N w a b, by exact (Below.refl _ _).alloc (Nat.le_refl _) _⟩ (fun w0 hq => ?_)
  obtain ⟨HV0, HB0⟩ := hq
  clear hmk
  go_wp2_with fail
  go_loopw [6, 7, 8, 9] (fun i _ _ _ wr => ∃ (n : Nat), n ≤ a.length ∧ Hid (NBk wr w.heap.size (wideN a b n)) ∧ Hid (Below w.heap.size w wr) ∧ i = .int .i64 (n : Int)) (fun i _ _ _ _ => a.length - (intOf i).toNat)
  case atStart => exact ⟨0, by omega, HV0, HB0, rfl⟩
  case round =>
    clear HV0 HB0
    obtain ⟨n, hn, HV, HB, rfl⟩ := hrel
    by_cases hlt : n < a.length
    · have hwl := wideN_length a b n
      obtain ⟨o0, ho0⟩ : ∃ o, wideN a b n = o := ⟨_, rfl⟩
      rw [ho0] at HV hwl
      have hcA := HA.out n hlt
      obtain ⟨ai, hai⟩ : ∃ x, a[n] = x := ⟨_, rfl⟩
      rw [hai] at hcA
      have hgd : a.getD n 0 = ai := by rw [List.getD_eq_getElem?_getD, List.getElem?_eq_getElem hlt, hai]; rfl
      have HN : Hid (wideN a b (n + 1) = (wideIn ai n b b.length (o0, 0)).1.set (n + b.length) (wideIn ai n b b.length (o0, 0)).2) := by show _ = _; rw [wideN, hgd, ho0]
      have HcA := Lib.hid hcA
      have Hwl := Lib.hid hwl
      clear hgd ho0 hai hcA hwl
      go_wp2_with fail
      go_loopw [7, 8, 9] (fun c k _ wx => ∃ (q : Nat), q ≤ b.length ∧ Hid (NBk wx w.heap.size (wideIn ai n b q (o0, 0)).1) ∧ Hid (Below w.heap.size w wx) ∧ c = .int .u64 ((wideIn ai n b q (o0, 0)).2 : Int) ∧ k = .int .i64 (q : Int)) (fun _ k _ _ => b.length - (intOf k).toNat)
      case atStart => exact ⟨0, by omega, HV, HB, rfl, rfl⟩
      case round =>
        clear HV HB
        obtain ⟨q, hq, HV, HB, rfl, rfl⟩ := hrel
        have hl2 : (wideIn ai n b q (o0, 0)).1.length = a.length + b.length := by rw [wideIn_length]; exact Hwl.out
        by_cases hql : q < b.length
        · have hstep : wideIn ai n b (q + 1) (o0, 0) = wideStep ai n b q (wideIn ai n b q (o0, 0)) := rfl
          obtain ⟨o1, ho1⟩ : ∃ o, (wideIn ai n b q (o0, 0)).1 = o := ⟨_, rfl⟩
          obtain ⟨c1, hc1⟩ : ∃ c, (wideIn ai n b q (o0, 0)).2 = c := ⟨_, rfl⟩
          have hs1 : wideIn ai n b q (o0, 0) = (o1, c1) := by rw [← ho1, ← hc1]
          rw [hs1] at hstep
          rw [ho1] at HV hl2
          rw [hc1]
          have hj : n + q < o1.length := by omega
          have cO := HV.out.cell (n + q) hj
          have fO := HV.out.free (n + q)
          obtain ⟨oo, hoo⟩ : ∃ x, o1[n + q] = x := ⟨_, rfl⟩
          rw [hoo] at cO
          have cA := cellB HB.out hga HcA.out
          have cB := cellB HB.out hgb (HBc.out q hql)
          obtain ⟨bk, hbk⟩ : ∃ x, b[q] = x := ⟨_, rfl⟩
          rw [hbk] at cB
          have g1 : o1.getD (n + q) 0 = oo := by rw [List.getD_eq_getElem?_getD, List.getElem?_eq_getElem hj, hoo]; rfl
          have g2 : b.getD q 0 = bk := by rw [List.getD_eq_getElem?_getD, List.getElem?_eq_getElem hql, hbk]; rfl
          obtain ⟨X, hX⟩ : ∃ X, (oo + ai * bk + c1) % 18446744073709551616 = X := ⟨_, rfl⟩
          have hXb : X < 18446744073709551616 := by omega
          have Hst : Hid (wideIn ai n b (q + 1) (o0, 0) = (o1.set (n + q) (X % 4294967296), X / 4294967296)) := by
            show _ = _
            rw [hstep, wideStep]
            simp only [g1, g2, hX]
          have w1 : IntKind.i64.wrap ((n : Int) + (q : Int)) = (n : Int) + (q : Int) := IntWalk.i64_in _ (by omega)
          have t1 : ((n : Int) + (q : Int)).toNat = n + q := by omega
          have t2 : 0 ≤ (n : Int) + (q : Int) := by omega
          have t3 : (n : Int) + (q : Int) < (a.length : Int) + (b.length : Int) := by omega
          have hx : IntKind.u64.wrap (IntKind.u64.wrap ((oo : Int) + IntKind.u64.wrap ((ai : Int) * (bk : Int))) + (c1 : Int)) = (X : Int) := by
            rw [IntKind.wrap_u64, IntKind.wrap_u64, IntKind.wrap_u64, ← Int.natCast_mul, ← hX]
            generalize ai * bk = P
            omega
          have hm1 : bits .and .u64 (X : Int) 4294967295 = ((X % 4294967296 : Nat) : Int) := and_low X hXb
          obtain ⟨lo, hlo⟩ : ∃ lo, X % 4294967296 = lo := ⟨_, rfl⟩
          obtain ⟨hi, hhi⟩ : ∃ hi, X / 4294967296 = hi := ⟨_, rfl⟩
          rw [hlo] at hm1
          have hd1 : (X : Int) / 4294967296 = (hi : Int) := by omega
          have Hst2 : Hid (wideIn ai n b (q + 1) (o0, 0) = (o1.set (n + q) lo, hi)) := by show _ = _; rw [Hst.out, hlo, hhi]
          have Hl2 := Lib.hid hl2
          clear hstep ho1 hc1 hs1 hoo hbk g1 g2 hlo hhi Hst hX hXb hl2
          go_upto_region 9 with fail
          go_quiet (fail)
          go_wp2_with fail
          have hset := NBk.set (w := wr.drewN nq) HV.out (n + q) lo
          refine ⟨⟨q + 1, by omega, ?_, (below_drewN HB.out).setCell (by exact Nat.le_refl _) _, by rw [Hst2.out], by go_num⟩, by simp [intOf]; omega⟩
          show NBk _ _ _
          rw [Hst2.out]
          exact hset
        · obtain rfl : q = b.length := by omega
          have hj : n + b.length < (wideIn ai n b b.length (o0, 0)).1.length := by omega
          have cO := HV.out.cell (n + b.length) hj
          have fO := HV.out.free (n + b.length)
          obtain ⟨oo, hoo⟩ : ∃ x, (wideIn ai n b b.length (o0, 0)).1[n + b.length] = x := ⟨_, rfl⟩
          rw [hoo] at cO
          obtain ⟨c1, hc1⟩ : ∃ c, (wideIn ai n b b.length (o0, 0)).2 = c := ⟨_, rfl⟩
          obtain ⟨o1, ho1⟩ : ∃ o, (wideIn ai n b b.length (o0, 0)).1 = o := ⟨_, rfl⟩
          rw [hc1] at HN ⊢
          rw [ho1] at HN HV
          have w1 : IntKind.i64.wrap ((n : Int) + (b.length : Int)) = (n : Int) + (b.length : Int) := IntWalk.i64_in _ (by omega)
          have t1 : ((n : Int) + (b.length : Int)).toNat = n + b.length := by omega
          have t2 : 0 ≤ (n : Int) + (b.length : Int) := by omega
          have t3 : (n : Int) < (a.length : Int) := by omega
          clear hoo hc1 ho1 hj hl2
          go_wp2_with fail
          have hset := HV.out.set (n + b.length) c1
          refine ⟨⟨n + 1, by omega, ?_, HB.out.setCell (by exact Nat.le_refl _) _, by go_num⟩, by simp [intOf]; omega⟩
          show NBk _ _ _
          rw [HN.out]
          exact hset
    · obtain rfl : n = a.length := by omega
      have hwl := wideN_length a b a.length
      go_wp2_with fail
      go_ret
      refine ⟨_, rfl, ?_, HB.out⟩
      have h := HV.out.row (a.length + b.length)
      rw [hwl] at h
      exact h
end Go.Proofs.Ytmjikebbknjahaa
