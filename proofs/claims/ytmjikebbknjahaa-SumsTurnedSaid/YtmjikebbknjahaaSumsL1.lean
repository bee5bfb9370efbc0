/-
  The walks of the laws SumsMore, SumsJoin, SumsTogether.
-/
import Derived.Test.YtmjikebbknjahaaAwakeS
import Derived.Test.YtmjikebbknjahaaFrameA
namespace Go.Proofs.Ytmjikebbknjahaa
open Go.RowKit Go.Lib Hw
set_option linter.unusedVariables false

theorem more_any (R : BitVec 32) (s : ByteArray) (w : World) (hs : s.size ≤ 9223372036854775807) :
    Calls Try.prog 40 #[.int .u32 (toU R), .string s] w fun e w' => e = .returned (.int .u32 (toU (crcMore R s.data.toList))) ∧ w = w' := by
  have h1 := notU R
  have h2 := notU (crcFeed (~~~ R) s.data.toList)
  go_enter Try.func40, Try.ntmps40
  go_wp2_with fail
  go_wp2_with (go_at_call 65; refine (feed_any _ _ _ (toU_bd (~~~ R)) hs).mono ?_; rintro e w' ⟨rfl, rfl⟩; rw [ofInt_toU])
  go_ret
  exact ⟨rfl, rfl⟩
theorem refMore_u (R : BitVec 32) (s : ByteArray) (w : World) (hs : s.size ≤ 9223372036854775807) :
    Calls Try.prog 41 #[.int .u32 (toU R), .string s] w fun e w' => e = .returned (.int .u32 (toU (crcMore R s.data.toList))) ∧ w = w' := by
  have h := refMore_any (toU R) s w (toU_bd R) hs
  rw [ofInt_toU] at h
  exact h

set_option maxHeartbeats 1000000 in
theorem SumsMore_walk (v0 v1 : Value) (w : World) (h0 : IsU32 v0) (h1 : IsStr v1) :
    Calls Try.prog 11 #[v0, v1] w fun e w' => e = .returned (.bool true) ∧ Below w.heap.size w w' := by
  obtain ⟨a, rfl, ha⟩ := h0
  obtain ⟨s, rfl, hs⟩ := h1
  obtain ⟨R, rfl⟩ : ∃ R : BitVec 32, a = toU R := ⟨_, (toU_ofInt ha.1 ha.2).symm⟩
  clear ha
  go_enter Try.func11, Try.ntmps11
  go_wp2_with (first
    | (go_at_call 40; refine (more_any _ _ _ hs).mono ?_; rintro e w' ⟨rfl, rfl⟩)
    | (go_at_call 41; refine (refMore_u _ _ _ hs).mono ?_; rintro e w' ⟨rfl, rfl⟩)
    | (go_at_call 23; refine (awake_any _).mono ?_; rintro e w4 ⟨rfl, hb4⟩))
  go_ret
  exact ⟨rfl, hb4⟩

set_option maxHeartbeats 1000000 in
theorem SumsJoin_walk (v0 v1 v2 : Value) (w : World) (h0 : IsU32 v0) (h1 : IsU32 v1) (h2 : IsI64 v2) :
    Calls Try.prog 5 #[v0, v1, v2] w fun e w' => e = .returned (.bool true) ∧ Below w.heap.size w w' := by
  obtain ⟨a, rfl, ha⟩ := h0
  obtain ⟨b, rfl, hb⟩ := h1
  obtain ⟨n, rfl, hn⟩ := h2
  obtain ⟨A, rfl⟩ : ∃ R : BitVec 32, a = toU R := ⟨_, (toU_ofInt ha.1 ha.2).symm⟩
  obtain ⟨B, rfl⟩ : ∃ R : BitVec 32, b = toU R := ⟨_, (toU_ofInt hb.1 hb.2).symm⟩
  clear ha hb
  by_cases hneg : n < 0
  · go_enter Try.func5, Try.ntmps5
    go_wp2_with (first
      | (go_at_call 29; refine (Join_neg _ _ _ _ hneg).mono ?_; rintro e w' ⟨rfl, rfl⟩)
      | (go_at_call 30; refine (refJoin_neg _ _ _ _ hneg).mono ?_; rintro e w' ⟨rfl, rfl⟩)
      | (go_at_call 23; refine (awake_any _).mono ?_; rintro e w4 ⟨rfl, hb4⟩))
    go_ret
    exact ⟨rfl, hb4⟩
  · obtain ⟨m, rfl⟩ : ∃ m : Nat, n = m := ⟨n.toNat, by omega⟩
    have hm : m ≤ 9223372036854775807 := by omega
    clear hneg hn
    go_enter Try.func5, Try.ntmps5
    go_wp2_with (first
      | (go_at_call 29; refine (Join_pos _ _ _ _ hm).mono ?_; rintro e w2 ⟨rfl, hb2⟩; have hz2 := hb2.size)
      | (go_at_call 30; refine (refJoin_pos _ _ _ _ hm).mono ?_; rintro e w3 ⟨rfl, hb3⟩; have hz3 := hb3.size)
      | (go_at_call 23; refine (awake_any _).mono ?_; rintro e w4 ⟨rfl, hb4⟩))
    go_ret
    exact ⟨rfl, (hb2.trans (hb3.mono hz2)).trans (hb4.mono (Nat.le_trans hz2 hz3))⟩

theorem feed_lin (l : List UInt8) (a : BitVec 32) : crcFeed a l = crcN (8 * l.length) a ^^^ crcFeed 0 l := by
  induction l generalizing a with
  | nil => simp [crcFeed, crcN]
  | cons b l ih =>
    have e1 : crcFeed a (b :: l) = crcFeed (crcByte a b) l := rfl
    have e2 : crcFeed 0 (b :: l) = crcFeed (crcByte 0 b) l := rfl
    rw [e1, e2, ih (crcByte a b), ih (crcByte 0 b)]
    unfold crcByte
    rw [crcN_xor, crcN_xor, crcN_xor, crcN_xor, ← crcN_add, ← crcN_add]
    have e3 : 8 * (b :: l).length = 8 * l.length + 8 := by rw [List.length_cons]; omega
    have z1 : crcN 8 (0 : BitVec 32) = 0 := (crcN_lin _).zero
    have z2 : crcN (8 * l.length) (0 : BitVec 32) = 0 := (crcN_lin _).zero
    rw [e3, z1, z2]
    have z3 : (0 : BitVec 32) ^^^ crcN (8 * l.length + 8) (ext8 b) = crcN (8 * l.length + 8) (ext8 b) := BitVec.zero_xor
    rw [z3, BitVec.xor_assoc]
/-- the CRC of one text in the walk's spelling -/
def crc1 (l : List UInt8) : BitVec 32 := ~~~ crcFeed (BitVec.allOnes 32) l
theorem parts_one (x : ByteArray) : ~~~ crcParts (BitVec.allOnes 32) [x] = crc1 x.data.toList := rfl
theorem not_xor (a b : BitVec 32) : ~~~ (a ^^^ b) = ~~~ a ^^^ b := by
  rw [← allOnes_xor, ← allOnes_xor, BitVec.xor_assoc]
theorem join_crc (x y : List UInt8) : joinV (crc1 x) (crc1 y) y.length = crc1 (x ++ y) := by
  unfold joinV crc1
  rw [crcFeed_append, feed_lin y (crcFeed _ x), feed_lin y (BitVec.allOnes 32), ← allOnes_xor, crcN_xor]
  generalize crcN (8 * y.length) (BitVec.allOnes 32) = p
  generalize crcN (8 * y.length) (crcFeed (BitVec.allOnes 32) x) = q
  generalize crcFeed 0 y = r
  rw [← allOnes_xor, ← allOnes_xor]
  generalize BitVec.allOnes 32 = u
  rw [BitVec.xor_comm p q, ← BitVec.xor_assoc u p r, BitVec.xor_comm u p, BitVec.xor_assoc p u r, ← BitVec.xor_assoc (q ^^^ p) p, BitVec.xor_assoc q p p, BitVec.xor_self, BitVec.xor_zero, ← BitVec.xor_assoc q u r, BitVec.xor_comm q u, BitVec.xor_assoc]
theorem more_crc (x y : List UInt8) : crcMore (crc1 x) y = crc1 (x ++ y) := by
  unfold crcMore crc1
  rw [BitVec.not_not, crcFeed_append]

theorem StrRow.lit (w : World) (ss : List ByteArray) (t : TypeId) (N : Nat) (hN : w.heap.size = N) : StrRow (w.alloc (.cells (ss.map Value.string).toArray t)) (.slice (some ⟨N, 0, none⟩) ss.length ss.length) ss := by
  subst hN
  refine ⟨some ⟨w.heap.size, 0, none⟩, ss.length, rfl, (fun h => by cases h), fun _ => ⟨w.heap.size, 0, rfl, fun i h => ?_⟩⟩
  rw [Nat.zero_add, heap_cell (heap_alloc_new w _)]
  simp [List.getElem?_eq_getElem h]
/-- the CRC of one text that was laid into a block of its own -/
theorem crc_one (w : World) (x : ByteArray) (t : TypeId) (N : Nat) (hN : w.heap.size = N) (hs : x.size ≤ 9223372036854775807) :
    Calls Try.prog 25 #[.slice (some ⟨N, 0, none⟩) 1 1] (w.alloc (.cells #[.string x] t)) fun e w' => e = .returned (.int .u32 (toU (crc1 x.data.toList))) ∧ w.alloc (.cells #[.string x] t) = w' :=
  crc_any _ [x] _ (StrRow.lit w [x] t N hN) (by simp) (by simpa using hs)
theorem crc_three (w : World) (x y z : ByteArray) (t : TypeId) (N : Nat) (hN : w.heap.size = N) (hx : x.size ≤ 9223372036854775807) (hy : y.size ≤ 9223372036854775807) (hz : z.size ≤ 9223372036854775807) :
    Calls Try.prog 25 #[.slice (some ⟨N, 0, none⟩) 3 3] (w.alloc (.cells #[.string x, .string y, .string z] t)) fun e w' => e = .returned (.int .u32 (toU (crc1 (x.data.toList ++ y.data.toList ++ z.data.toList)))) ∧ w.alloc (.cells #[.string x, .string y, .string z] t) = w' := by
  have h := crc_any _ [x, y, z] _ (StrRow.lit w [x, y, z] t N hN) (by simp) (by simp [hx, hy, hz])
  have e : ~~~ crcParts (BitVec.allOnes 32) [x, y, z] = crc1 (x.data.toList ++ y.data.toList ++ z.data.toList) := by
    unfold crc1 crcParts
    rw [crcFeed_append, crcFeed_append]; rfl
  rw [e] at h
  exact h

set_option maxHeartbeats 4000000 in
theorem SumsTogether_walk (v0 v1 v2 : Value) (w : World) (h0 : ∃ s, v0 = .string s ∧ s.size ≤ 140737488355328) (h1 : ∃ s, v1 = .string s ∧ s.size ≤ 140737488355328) (h2 : ∃ s, v2 = .string s ∧ s.size ≤ 140737488355328) :
    Calls Try.prog 12 #[v0, v1, v2] w fun e w' => e = .returned (.bool true) ∧ Below w.heap.size w w' := by
  obtain ⟨x, rfl, hx⟩ := h0
  obtain ⟨y, rfl, hy⟩ := h1
  obtain ⟨z, rfl, hz⟩ := h2
  have hx' : x.size ≤ 9223372036854775807 := by omega
  have hy' : y.size ≤ 9223372036854775807 := by omega
  have hz' : z.size ≤ 9223372036854775807 := by omega
  have hxyz : (x ++ y ++ z).size ≤ 9223372036854775807 := by rw [ByteArray.size_append, ByteArray.size_append]; omega
  have hj1 := join_crc x.data.toList y.data.toList
  have hj2 := join_crc (x.data.toList ++ y.data.toList) z.data.toList
  rw [data_len] at hj1 hj2
  have HJ1 := Lib.hid hj1
  have HJ2 := Lib.hid hj2
  have HM1 := Lib.hid (more_crc x.data.toList y.data.toList)
  have HM2 := Lib.hid (more_crc (x.data.toList ++ y.data.toList) z.data.toList)
  have HA : Hid (crc1 (x ++ y ++ z).data.toList = crc1 (x.data.toList ++ y.data.toList ++ z.data.toList)) := by show _ = _; rw [ByteArray.data_append, ByteArray.data_append, Array.toList_append, Array.toList_append]
  obtain ⟨T, hT⟩ : ∃ T, crc1 (x.data.toList ++ y.data.toList ++ z.data.toList) = T := ⟨_, rfl⟩
  rw [hT] at HA HJ2 HM2
  have HT := Lib.hid hT
  clear hj1 hj2 hT
  go_enter Try.func12, Try.ntmps12
  go_upto_region 2 with (go_at_call 25; (with_reducible refine (crc_one _ _ _ _ (by simp) hxyz).mono ?_); rintro e w' ⟨rfl, rfl⟩; rw [HA.out])
  go_upto_region 3 with (first
    | (go_at_call 25; (with_reducible refine (crc_one _ x _ _ (by simp) hx').mono ?_); rintro e w' ⟨rfl, rfl⟩)
    | (go_at_call 25; (with_reducible refine (crc_one _ y _ _ (by simp) hy').mono ?_); rintro e w' ⟨rfl, rfl⟩)
    | (go_at_call 29; refine (Join_pos _ _ _ _ hy').mono ?_; rintro e w2 ⟨rfl, hb2⟩; rw [HJ1.out]))
  refine wp_name (fun W => Below w.heap.size w W) ((((((Below.refl _ _).alloc (Nat.le_refl _) _).alloc (by simp) _).alloc (by simp; omega) _).trans (hb2.mono (by simp; omega)))) (fun W3 HB3 => ?_)
  clear hb2
  go_upto_region 4 with (first
    | (go_at_call 25; (with_reducible refine (crc_one _ z _ _ (by simp) hz').mono ?_); rintro e w' ⟨rfl, rfl⟩)
    | (go_at_call 29; refine (Join_pos _ _ _ _ hz').mono ?_; rintro e w5 ⟨rfl, hb5⟩; rw [HJ2.out]))
  have HB5 := Lib.hid ((HB3.alloc HB3.size _).trans (hb5.mono (by simp; have := HB3.size; omega)))
  clear hb5 HB3
  have hz5 := HB5.out.size
  go_upto_region 6 with fail
  go_wp2_with (first
    | (go_at_call 25; (with_reducible refine (crc_three _ _ _ _ _ _ (by simp) hx' hy' hz').mono ?_); rintro e w' ⟨rfl, rfl⟩; rw [HT.out])
    | (go_at_call 25; (with_reducible refine (crc_one _ x _ _ (by simp) hx').mono ?_); rintro e w' ⟨rfl, rfl⟩)
    | (go_at_call 40; (with_reducible refine (more_any (crc1 x.data.toList) y _ hy').mono ?_); rintro e w' ⟨rfl, rfl⟩; rw [HM1.out])
    | (go_at_call 40; (with_reducible refine (more_any (crc1 (x.data.toList ++ y.data.toList)) z _ hz').mono ?_); rintro e w' ⟨rfl, rfl⟩; rw [HM2.out])
    | (go_at_call 23; refine (awake_any _).mono ?_; rintro e w6 ⟨rfl, hb6⟩))
  go_ret
  exact ⟨rfl, (((HB5.out.alloc hz5 _).alloc (by simp; omega) _)).trans (hb6.mono (by simp; omega))⟩
end Go.Proofs.Ytmjikebbknjahaa
