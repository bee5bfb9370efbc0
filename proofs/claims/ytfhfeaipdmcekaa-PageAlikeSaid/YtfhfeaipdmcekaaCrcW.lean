/-
  The walks of the CRC's functions: sums.feed, sums.CRC, sums.More; the reference's bit, More, CRC.
-/
import Derived.Test.YtfhfeaipdmcekaaProg
import Derived.Test.YtfhfeaipdmcekaaCrc
import Derived.WalkKit
import Derived.WalkSpells
import Derived.WalkLawsBesides
import Derived.Lib.Hide
namespace Go.Proofs.Ytfhfeaipdmcekaa
open Go.RowKit Hw

set_option maxHeartbeats 1000000 in
theorem feed_any (r : Int) (s : ByteArray) (w : World) (hr : 0 ≤ r ∧ r < 4294967296) (hs : s.size ≤ 9223372036854775807) :
    Calls Try.prog 66 #[.int .u32 r, .string s] w fun e w' => e = .returned (.int .u32 (toU (crcFeed (BitVec.ofInt 32 r) s.data.toList))) ∧ w = w' := by
  obtain ⟨R, rfl⟩ : ∃ R : BitVec 32, r = toU R := ⟨_, (toU_ofInt hr.1 hr.2).symm⟩
  rw [ofInt_toU]
  clear hr
  go_enter Try.func66, Try.ntmps66
  go_wp2
  go_loop [0, 9] (fun t i => ∃ (k : Nat) (X : BitVec 32), k ≤ s.size ∧ Hid (X = crcFeed R (s.data.toList.take k)) ∧ i = .int .i64 k ∧ t = .int .u32 (toU X)) (fun _ i => s.size - (intOf i).toNat)
  case atStart => exact ⟨0, R, Nat.zero_le _, by simp [crcFeed, Hid], rfl, rfl⟩
  case round =>
    obtain ⟨k, X, hk, HX, rfl, rfl⟩ := hrel
    by_cases hlt : k < s.size
    · have hsn := Lib.hid (feed_snoc R s k hlt)
      obtain ⟨b, hb⟩ : ∃ b : UInt8, s[k] = b := ⟨_, rfl⟩
      have HB : Hid (b = byteAt s k) := by show b = _; rw [← byteAt_eq s k hlt, hb]
      have hx : bits .xor .u32 (toU X) ((b.toNat : Int) % 4294967296) = toU (X ^^^ ext8 b) := by
        have h1 : ((b.toNat : Int) % 4294967296) = toU (ext8 b) := by rw [← toU_ext8]; have := b.toNat_lt; omega
        rw [h1, bits_xor32]
      have hn := toU_bd X
      go_wp2
      go_loop [0, 18] (fun t j => ∃ (m : Nat) (Y : BitVec 32), m ≤ 8 ∧ Hid (Y = crcN m (X ^^^ ext8 b)) ∧ j = .int .i64 m ∧ t = .int .u32 (toU Y)) (fun _ j => 8 - (intOf j).toNat)
      case atStart => exact ⟨0, _, by omega, rfl, rfl, rfl⟩
      case round =>
        clear hx hb hn
        obtain ⟨m, Y, hm, HY, rfl, rfl⟩ := hrel
        by_cases hl8 : m < 8
        · have hy := toU_bd Y
          have ha : bits .and .u32 (toU Y) 1 = toU (Y &&& 1#32) := bits_and32 Y 1#32
          have ho := and_one_eq Y
          have hp : bits .xor .u32 (toU Y / 2) 3988292384 = toU ((Y >>> 1) ^^^ crcPoly) := by rw [toU_half, toU_poly, bits_xor32]
          cases hbit : Y.getLsbD 0
          · rw [hbit] at ho
            have hF : Hid (crcF Y = Y >>> 1) := by show crcF Y = _; unfold crcF; rw [hbit]; rfl
            clear hbit
            go_wp2
            go_round
            case rel => exact ⟨m + 1, Y >>> 1, by omega, by show _ = crcF (crcN m _); rw [← HY.out, hF.out], by go_num, by rw [toU_half]⟩
            case measure => simp [intOf]; omega
          · rw [hbit] at ho
            have hF : Hid (crcF Y = (Y >>> 1) ^^^ crcPoly) := by show crcF Y = _; unfold crcF; rw [hbit]; rfl
            clear hbit
            go_wp2
            go_round
            case rel => exact ⟨m + 1, (Y >>> 1) ^^^ crcPoly, by omega, by show _ = crcF (crcN m _); rw [← HY.out, hF.out], by go_num, rfl⟩
            case measure => simp [intOf]; omega
        · obtain rfl : m = 8 := by omega
          go_wp2
          go_round
          case rel => exact ⟨k + 1, Y, by omega, by show _ = _; rw [hsn.out, ← HX.out, HY.out, HB.out]; rfl, by go_num, rfl⟩
          case measure => simp [intOf]; omega
    · go_wp2
      go_ret
      exact ⟨by rw [HX.out, List.take_of_length_le (by simp; omega)]; rfl, rfl⟩

set_option maxHeartbeats 1000000 in
theorem bit_any (r b : Int) (w : World) (hr : 0 ≤ r ∧ r < 4294967296) (hb : b = 0 ∨ b = 1)  :
    Calls Try.prog 79 #[.int .u32 r, .int .u32 b] w fun e w' => e = .returned (.int .u32 (toU (crcBit (BitVec.ofInt 32 r) (BitVec.ofInt 32 b)))) ∧ w = w' := by
  obtain ⟨R, rfl⟩ : ∃ R : BitVec 32, r = toU R := ⟨_, (toU_ofInt hr.1 hr.2).symm⟩
  obtain ⟨B, rfl⟩ : ∃ B : BitVec 32, b = toU B := ⟨_, (toU_ofInt (by omega) (by omega)).symm⟩
  rw [ofInt_toU, ofInt_toU]
  clear hb
  have ha : bits .and .u32 (toU R) 1 = toU (R &&& 1#32) := bits_and32 R 1#32
  have hp : bits .xor .u32 (toU R / 2) 3988292384 = toU ((R >>> 1) ^^^ crcPoly) := by rw [toU_half, toU_poly, bits_xor32]
  by_cases hc : (R &&& 1#32) = B
  · have hF : Hid (crcBit R B = R >>> 1) := by show crcBit R B = _; unfold crcBit; rw [if_neg (by simp [hc])]
    have ht : (toU (R &&& 1#32) != toU B) = false := by rw [hc]; simp
    clear hc
    go_enter Try.func79, Try.ntmps79
    go_wp2
    go_ret
    exact ⟨by rw [hF.out, ← toU_half]; rfl, rfl⟩
  · have hF : Hid (crcBit R B = (R >>> 1) ^^^ crcPoly) := by show crcBit R B = _; unfold crcBit; rw [if_pos (by simpa using hc)]
    have ht : (toU (R &&& 1#32) != toU B) = true := by rw [bne_iff_ne]; exact fun h => hc (toU_inj h)
    clear hc
    go_enter Try.func79, Try.ntmps79
    go_wp2
    go_ret
    exact ⟨by rw [hF.out]; rfl, rfl⟩

/-- A slice of strings that can be read: where it has any, its cells lie there. -/
def StrRow (w : World) (v : Value) (ss : List ByteArray) : Prop :=
  ∃ ad c, v = .slice ad ss.length c ∧ (ad = none → c = 0) ∧ (0 < ss.length → ∃ b o, ad = some ⟨b, o, none⟩ ∧ ∀ i (h : i < ss.length), w.cell? ⟨b, o + i, none⟩ = some (.string ss[i]))

theorem StrRow.two (w : World) (x y : ByteArray) (t : TypeId) (b : Nat) (hb : w.heap.size = b) : StrRow (w.alloc (.cells #[.string x, .string y] t)) (.slice (some ⟨b, 0, none⟩) 2 2) [x, y] := by
  subst hb
  refine ⟨some ⟨w.heap.size, 0, none⟩, 2, rfl, (fun h => by cases h), fun _ => ⟨w.heap.size, 0, rfl, fun i h => ?_⟩⟩
  have hn := cell_of_row (w.alloc (.cells #[.string x, .string y] t)) w.heap.size (0 + i) #[.string x, .string y] t (0, 0) (heap_alloc_new w _)
  rw [hn]
  match i, h with
  | 0, _ => rfl
  | 1, _ => rfl

theorem StrRow.drew {w : World} {v : Value} {ss : List ByteArray} (h : StrRow w v ss) : StrRow w.drew v ss := h

def crcParts (r : BitVec 32) (ss : List ByteArray) : BitVec 32 := ss.foldl (fun x s => crcFeed x s.data.toList) r

set_option maxHeartbeats 1000000 in
theorem crc_any (v : Value) (ss : List ByteArray) (w : World) (hv : StrRow w v ss) (hn : ss.length ≤ 9223372036854775807) (hs : ∀ s ∈ ss, s.size ≤ 9223372036854775807) :
    Calls Try.prog 40 #[v] w fun e w' => e = .returned (.int .u32 (toU (~~~ crcParts (BitVec.allOnes 32) ss))) ∧ w = w' := by
  obtain ⟨ad, c, rfl, _, hcs⟩ := hv
  by_cases h0 : ss.length = 0
  · obtain rfl : ss = [] := List.eq_nil_of_length_eq_zero h0
    clear hcs h0
    go_enter Try.func40, Try.ntmps40
    go_wp2
    refine wp_loop_rounds 1 ?_
    rw [rounds_succ]
    go_wp2
    go_ret
    exact ⟨rfl, rfl⟩
  · obtain ⟨b, o, rfl, hc⟩ := hcs (by omega)
    clear hcs h0
    go_enter Try.func40, Try.ntmps40
    go_wp2
    go_loop [3, 8] (fun t i => ∃ (k : Nat) (X : BitVec 32), k ≤ ss.length ∧ Hid (X = crcParts (BitVec.allOnes 32) (ss.take k)) ∧ i = .int .i64 k ∧ t = .int .u32 (toU X)) (fun _ i => ss.length - (intOf i).toNat)
    case atStart => exact ⟨0, BitVec.allOnes 32, Nat.zero_le _, rfl, rfl, rfl⟩
    case round =>
      obtain ⟨k, X, hk, HX, rfl, rfl⟩ := hrel
      by_cases hlt : k < ss.length
      · have hcell := hc k hlt
        obtain ⟨s, hsk⟩ : ∃ s, s = ss[k] := ⟨_, rfl⟩
        rw [← hsk] at hcell
        have hsz : s.size ≤ 9223372036854775807 := hs s (by rw [hsk]; exact List.getElem_mem hlt)
        have HS : Hid (crcParts (BitVec.allOnes 32) (ss.take (k + 1)) = crcFeed X s.data.toList) := by
          show _ = _
          rw [List.take_succ_eq_append_getElem hlt, ← hsk, HX.out]
          unfold crcParts
          rw [List.foldl_append]; rfl
        clear hsk hc
        go_wp2_with (go_at_call 66; refine (feed_any _ _ _ (toU_bd X) hsz).mono ?_; rintro e w' ⟨rfl, rfl⟩)
        go_round
        case rel => exact ⟨k + 1, crcFeed X s.data.toList, by omega, HS.out.symm, by go_num, by rw [ofInt_toU]⟩
        case measure => simp [intOf]; omega
      · have hnot : bits .xor .u32 IntKind.u32.max (toU X) = toU (~~~ X) := by rw [toU_max, bits_xor32, allOnes_xor]
        go_wp2
        go_ret
        exact ⟨by rw [HX.out, List.take_of_length_le (by omega)]; rfl, rfl⟩

theorem crcParts_two (x y : ByteArray) : ~~~ crcParts (BitVec.allOnes 32) [x, y] = crcOf (x.data.toList ++ y.data.toList) := by
  have h0 : (~~~ (0 : BitVec 32)) = BitVec.allOnes 32 := by decide
  simp only [crcParts, List.foldl_cons, List.foldl_nil, crcOf, crcMore, crcFeed_append, h0]

set_option maxHeartbeats 1000000 in
theorem refMore_any (r : Int) (s : ByteArray) (w : World) (hr : 0 ≤ r ∧ r < 4294967296) (hs : s.size ≤ 9223372036854775807) :
    Calls Try.prog 75 #[.int .u32 r, .string s] w fun e w' => e = .returned (.int .u32 (toU (crcMore (BitVec.ofInt 32 r) s.data.toList))) ∧ w = w' := by
  obtain ⟨R, rfl⟩ : ∃ R : BitVec 32, r = toU R := ⟨_, (toU_ofInt hr.1 hr.2).symm⟩
  rw [ofInt_toU]
  clear hr
  have hnot : bits .xor .u32 IntKind.u32.max (toU R) = toU (~~~ R) := by rw [toU_max, bits_xor32, allOnes_xor]
  go_enter Try.func75, Try.ntmps75
  go_wp2
  clear hnot
  go_loop [5, 6] (fun t i => ∃ (k : Nat) (X : BitVec 32), k ≤ s.size ∧ Hid (X = crcFeed (~~~ R) (s.data.toList.take k)) ∧ i = .int .i64 k ∧ t = .int .u32 (toU X)) (fun _ i => s.size - (intOf i).toNat)
  case atStart => exact ⟨0, ~~~ R, Nat.zero_le _, by simp [crcFeed, Hid], rfl, rfl⟩
  case round =>
    obtain ⟨k, X, hk, HX, rfl, rfl⟩ := hrel
    by_cases hlt : k < s.size
    · have hsn := Lib.hid (feed_snoc (~~~ R) s k hlt)
      obtain ⟨b, hb⟩ : ∃ b : UInt8, s[k] = b := ⟨_, rfl⟩
      have HB : Hid (b = byteAt s k) := by show b = _; rw [← byteAt_eq s k hlt, hb]
      go_wp2
      go_loop [5, 7] (fun t j => ∃ (m : Nat) (Y : BitVec 32), m ≤ 8 ∧ Hid (Y = crcMid X (ext8 b) m) ∧ j = .int .i64 m ∧ t = .int .u32 (toU Y)) (fun _ j => 8 - (intOf j).toNat)
      case atStart => exact ⟨0, X, by omega, (crcMid_zero _ _).symm, rfl, rfl⟩
      case round =>
        obtain ⟨m, Y, hm, HY, rfl, rfl⟩ := hrel
        by_cases hl8 : m < 8
        · have hst := Lib.hid (crcMid_succ X (ext8 b) m)
          have hsh : bits .and .u32 ((b.toNat : Int) % 4294967296 / 2 ^ m) 1 = toU ((ext8 b >>> m) &&& 1#32) := by
            have h1 : ((b.toNat : Int) % 4294967296) = toU (ext8 b) := by rw [← toU_ext8]; have := b.toNat_lt; omega
            rw [h1, ← toU_shift]; exact bits_and32 _ 1#32
          have hc : toU ((ext8 b >>> m) &&& 1#32) = 0 ∨ toU ((ext8 b >>> m) &&& 1#32) = 1 := by rw [lsb_and]; cases (ext8 b >>> m).getLsbD 0 <;> simp [toU]
          have HC := Lib.hid hc
          clear hc
          go_wp2_with (go_at_call 79; refine (bit_any _ _ _ (toU_bd Y) HC.out).mono ?_; rintro e w' ⟨rfl, rfl⟩)
          go_round
          case rel => exact ⟨m + 1, _, by omega, by show _ = _; rw [← hst.out, ← HY.out], by go_num, by rw [ofInt_toU, ofInt_toU]⟩
          case measure => simp [intOf]; omega
        · obtain rfl : m = 8 := by omega
          go_wp2
          go_round
          case rel => exact ⟨k + 1, Y, by omega, by show _ = _; rw [hsn.out, ← HX.out, HY.out, HB.out, crcMid_eight], by go_num, rfl⟩
          case measure => simp [intOf]; omega
    · have hnot : bits .xor .u32 IntKind.u32.max (toU X) = toU (~~~ X) := by rw [toU_max, bits_xor32, allOnes_xor]
      go_wp2
      go_ret
      exact ⟨by rw [HX.out, List.take_of_length_le (by simp; omega)]; rfl, rfl⟩

set_option maxHeartbeats 1000000 in
theorem refCRC_any (s : ByteArray) (w : World) (hs : s.size ≤ 9223372036854775807) :
    Calls Try.prog 56 #[.string s] w fun e w' => e = .returned (.int .u32 (toU (crcOf s.data.toList))) ∧ w = w' := by
  go_enter Try.func56, Try.ntmps56
  go_wp2_with (go_at_call 75; refine (refMore_any _ _ _ (by decide) hs).mono ?_; rintro e w' ⟨rfl, rfl⟩)
  go_ret
  exact ⟨rfl, rfl⟩
end Go.Proofs.Ytfhfeaipdmcekaa
