/-
  The walks of page.Open and of the law PageWrite.
-/
import Derived.Test.YtfhfeaipdmcekaaPageL1
namespace Go.Proofs.Ytfhfeaipdmcekaa
open Go.RowKit Hw
set_option linter.unusedVariables false

def zeroPage : Value := .agg #[.int .u8 0, .int .u32 0, .int .u64 0, .string ⟨#[]⟩]
def openC (a b no : Int) (s : ByteArray) : Int := if readC a b s = 0 ∧ (rdN s : Int) ≠ no then 54 else readC a b s
def openV (a b no : Int) (s : ByteArray) : Value :=
  .tuple #[if openC a b no s = 0 then .agg #[.int .u8 (rdK s), .int .u32 (rdN s), .int .u64 (rdR s), .string (rdB s)] else .agg #[.int .u8 0, .int .u32 0, .int .u64 0, .string ⟨#[]⟩], .int .i64 (openC a b no s)]

/-- a result that is a struct in a block, and a number -/
theorem blk4 {W : World} {b : Nat} {k n r : Int} {s : ByteArray} {t : TypeId} (h : W.heap[b]? = some (.cells #[.int .u8 k, .int .u32 n, .int .u64 r, .string s] t (0, 0))) :
    W.cell? ⟨b, 0, none⟩ = some (.int .u8 k) ∧ W.cell? ⟨b, 1, none⟩ = some (.int .u32 n) ∧ W.cell? ⟨b, 2, none⟩ = some (.int .u64 r) ∧ W.cell? ⟨b, 3, none⟩ = some (.string s) ∧
    W.frozen? ⟨b, 0, none⟩ = false ∧ W.frozen? ⟨b, 1, none⟩ = false ∧ W.frozen? ⟨b, 2, none⟩ = false ∧ W.frozen? ⟨b, 3, none⟩ = false :=
  ⟨by rw [heap_cell h]; rfl, by rw [heap_cell h]; rfl, by rw [heap_cell h]; rfl, by rw [heap_cell h]; rfl, heap_free h 0, heap_free h 1, heap_free h 2, heap_free h 3⟩
theorem blk4_set {W W4 : World} {b : Nat} {k n r k' n' r' : Int} {s s' : ByteArray} {t : TypeId} (h : W.heap[b]? = some (.cells #[.int .u8 k, .int .u32 n, .int .u64 r, .string s] t (0, 0)))
    (e : W4 = (((W.setCell ⟨b, 0, none⟩ (.int .u8 k')).setCell ⟨b, 1, none⟩ (.int .u32 n')).setCell ⟨b, 2, none⟩ (.int .u64 r')).setCell ⟨b, 3, none⟩ (.string s')) :
    W4.heap[b]? = some (.cells #[.int .u8 k', .int .u32 n', .int .u64 r', .string s'] t (0, 0)) ∧ (∀ B, B ≤ b → Below B W W4) := by
  have h1 := heap_set (o := 0) h (.int .u8 k')
  have h2 := heap_set (o := 1) h1 (.int .u32 n')
  have h3 := heap_set (o := 2) h2 (.int .u64 r')
  have h4 := heap_set (o := 3) h3 (.string s')
  rw [← e] at h4
  refine ⟨h4, fun B hB => ?_⟩
  rw [e]
  exact ((((Below.refl _ _).setCell hB _).setCell hB _).setCell hB _).setCell hB _

theorem blk4_set_alloc {W W4 : World} {b : Nat} {k n r k' n' r' : Int} {s s' : ByteArray} {t : TypeId} {o : Obj} (h : W.heap[b]? = some (.cells #[.int .u8 k, .int .u32 n, .int .u64 r, .string s] t (0, 0)))
    (e : W4 = ((((W.setCell ⟨b, 0, none⟩ (.int .u8 k')).setCell ⟨b, 1, none⟩ (.int .u32 n')).setCell ⟨b, 2, none⟩ (.int .u64 r')).setCell ⟨b, 3, none⟩ (.string s')).alloc o) :
    W4.heap[b]? = some (.cells #[.int .u8 k', .int .u32 n', .int .u64 r', .string s'] t (0, 0)) ∧ (∀ B, B ≤ b → B ≤ W.heap.size → Below B W W4) := by
  obtain ⟨h3, hB3⟩ := blk4_set (k' := k') (n' := n') (r' := r') (s' := s') h rfl
  rw [e]
  exact ⟨heap_alloc h3, fun B hB hW => (hB3 B hB).alloc (by have := (hB3 B hB).size; omega) _⟩

set_option maxHeartbeats 2000000 in
theorem Open5_any (a b no : Int) (s : ByteArray) (w : World) (ha : -9223372036854775808 ≤ a ∧ a ≤ 9223372036854775807) (hno : 0 ≤ no ∧ no < 4294967296) (hs : s.size ≤ 9223372036854775807) :
    Calls Try.prog 24 #[.agg #[.int .i64 a, .int .i64 b], .int .u32 no, .string s] w fun e w' => e = .returned (openV a b no s) ∧ Below w.heap.size w w' := by
  have HR := Lib.hid (Read_any a b s)
  obtain ⟨c, hc⟩ : ∃ c, readC a b s = c := ⟨_, rfl⟩
  obtain ⟨k, n, r, t, hV, hkn⟩ : ∃ (k n r : Int) (t : ByteArray), readV a b s = .tuple #[.agg #[.int .u8 k, .int .u32 n, .int .u64 r, .string t], .int .i64 c] ∧
      (c = 0 → k = rdK s ∧ n = rdN s ∧ r = rdR s ∧ t = rdB s) ∧ (c ≠ 0 → k = 0 ∧ n = 0 ∧ r = 0 ∧ t = ⟨#[]⟩) := by
    by_cases h0 : c = 0
    · exact ⟨rdK s, rdN s, rdR s, rdB s, by rw [readV, hc, if_pos h0], fun _ => ⟨rfl, rfl, rfl, rfl⟩, fun h => absurd h0 h⟩
    · exact ⟨0, 0, 0, ⟨#[]⟩, by rw [readV, hc, if_neg h0], fun h => absurd h h0, fun _ => ⟨rfl, rfl, rfl, rfl⟩⟩
  rw [hV] at HR
  have Hkn := Lib.hid hkn
  have Hc := Lib.hid hc
  clear hV hkn hc
  have hres : (w.alloc (.cells #[.int .i64 a, .int .i64 b] 23)).alloc (.cells #[.int .u8 0, .int .u32 0, .int .u64 0, .string ⟨#[]⟩] 28) = (w.alloc (.cells #[.int .i64 a, .int .i64 b] 23)).alloc (.cells #[.int .u8 0, .int .u32 0, .int .u64 0, .string ⟨#[]⟩] 28) := rfl
  have R0 : ((w.alloc (.cells #[.int .i64 a, .int .i64 b] 23)).alloc (.cells #[.int .u8 0, .int .u32 0, .int .u64 0, .string ⟨#[]⟩] 28)).heap[w.heap.size + 1]? = some (.cells #[.int .u8 0, .int .u32 0, .int .u64 0, .string ⟨#[]⟩] 28 (0, 0)) := by
    have := heap_new (w.alloc (.cells #[.int .i64 a, .int .i64 b] 23)) (.cells #[.int .u8 0, .int .u32 0, .int .u64 0, .string ⟨#[]⟩] 28)
    simpa only [World.size_alloc] using this
  have B0 : Hid (Below w.heap.size w ((w.alloc (.cells #[.int .i64 a, .int .i64 b] 23)).alloc (.cells #[.int .u8 0, .int .u32 0, .int .u64 0, .string ⟨#[]⟩] 28))) := ((Below.refl _ _).alloc (Nat.le_refl _) _).alloc (by simp) _
  have HR0 := Lib.hid R0
  clear R0 hres
  go_enter Try.func24, Try.ntmps24
  go_wp2_with fail
  refine (HR.out _ ha hs).mono ?_
  rintro e w1 ⟨rfl, hb1⟩
  have R1 := Lib.hid (heap_below HR0.out hb1 (by simp only [World.size_alloc]; omega))
  have B1 := Lib.hid (B0.out.trans (hb1.mono (by simp only [World.size_alloc]; omega)))
  have hz1 := heap_lt R1.out
  clear hb1 HR0 B0
  have R2 := Lib.hid (heap_alloc (o' := .cells #[.int .u8 k, .int .u32 n, .int .u64 r, .string t] 28) R1.out)
  obtain ⟨q0, q1, q2, q3, k0, k1, k2, k3⟩ := blk4 R1.out
  by_cases hc0 : c = 0
  · have d0 : (c == 0) = true := by rw [hc0]; rfl
    by_cases hnn : n = no
    · have d1 : (n != no) = false := by rw [hnn]; simp
      have hO : Hid (openV a b no s = .tuple #[.agg #[.int .u8 k, .int .u32 n, .int .u64 r, .string t], .int .i64 c]) := by
        obtain ⟨e1, e2, e3, e4⟩ := Hkn.out.1 hc0
        have ho : openC a b no s = c := by rw [openC, Hc.out, if_neg (by rw [← e2]; exact fun h => h.2 hnn)]
        show _ = _
        rw [openV, ho, if_pos hc0, e1, e2, e3, e4]
      clear hc0 hnn
      go_wp2_with fail
      refine wpDone (fun W4 e4 => ?_)
      obtain ⟨h3, hB3⟩ := blk4_set_alloc R1.out e4
      obtain ⟨z0, z1, z2, z3, _⟩ := blk4 h3
      exact bodyPost_ret (v := .tuple #[.agg #[.int .u8 k, .int .u32 n, .int .u64 r, .string t], .int .i64 c]) (by simp [results, Try.results24, go_sem, z0, z1, z2, z3]) rfl ⟨by rw [hO.out], B1.out.trans (hB3 _ (by omega) (by omega))⟩
    · have d1 : (n != no) = true := by rw [bne_iff_ne]; exact hnn
      have hO : Hid (openV a b no s = .tuple #[.agg #[.int .u8 0, .int .u32 0, .int .u64 0, .string ⟨#[]⟩], .int .i64 54]) := by
        obtain ⟨e1, e2, e3, e4⟩ := Hkn.out.1 hc0
        have ho : openC a b no s = 54 := by rw [openC, Hc.out, if_pos ⟨hc0, by rw [← e2]; exact hnn⟩]
        show _ = _
        rw [openV, ho]; rfl
      clear hc0 hnn
      go_wp2_with fail
      refine wpDone (fun W4 e4 => ?_)
      obtain ⟨h3, hB3⟩ := blk4_set_alloc R1.out e4
      obtain ⟨z0, z1, z2, z3, _⟩ := blk4 h3
      exact bodyPost_ret (v := .tuple #[.agg #[.int .u8 0, .int .u32 0, .int .u64 0, .string ⟨#[]⟩], .int .i64 54]) (by simp [results, Try.results24, go_sem, z0, z1, z2, z3]) rfl ⟨by rw [hO.out], B1.out.trans (hB3 _ (by omega) (by omega))⟩
  · have d0 : (c == 0) = false := by rw [beq_eq_false_iff_ne]; exact hc0
    have hO : Hid (openV a b no s = .tuple #[.agg #[.int .u8 k, .int .u32 n, .int .u64 r, .string t], .int .i64 c]) := by
      obtain ⟨e1, e2, e3, e4⟩ := Hkn.out.2 hc0
      have ho : openC a b no s = c := by rw [openC, Hc.out, if_neg (fun h => hc0 h.1)]
      show _ = _
      rw [openV, ho, if_neg hc0, e1, e2, e3, e4]
    clear hc0
    go_wp2_with fail
    refine wpDone (fun W4 e4 => ?_)
    obtain ⟨h3, hB3⟩ := blk4_set_alloc R1.out e4
    obtain ⟨z0, z1, z2, z3, _⟩ := blk4 h3
    exact bodyPost_ret (v := .tuple #[.agg #[.int .u8 k, .int .u32 n, .int .u64 r, .string t], .int .i64 c]) (by simp [results, Try.results24, go_sem, z0, z1, z2, z3]) rfl ⟨by rw [hO.out], B1.out.trans (hB3 _ (by omega) (by omega))⟩
end Go.Proofs.Ytfhfeaipdmcekaa
