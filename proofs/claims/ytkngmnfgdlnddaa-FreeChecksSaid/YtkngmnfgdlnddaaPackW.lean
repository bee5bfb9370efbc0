/-
  The walks of package pack: width, New, Put, String; page.four. Printed by wip/mk_pack.py.
-/
import Derived.Test.YtkngmnfgdlnddaaOwnB
import Derived.Test.YtkngmnfgdlnddaaBytes
namespace Go.Proofs.Ytkngmnfgdlnddaa
open Go.RowKit Hw
set_option linter.unusedVariables false

theorem width_step_u32 (k : Nat) (h : k < 32) : ((2 : Int) ^ k % 4294967296 != 0) = true ∧ ((2 : Int) ^ k % 4294967296) * 2 % 4294967296 = 2 ^ (k + 1) % 4294967296 := by
  have h2 : (2 : Int) ^ (k + 1) = 2 ^ k * 2 := by rw [Int.pow_succ]
  have h3 : (2 : Int) ^ k ≤ 2 ^ 31 := by exact_mod_cast Nat.pow_le_pow_right (by decide) (by omega)
  have h4 : (0 : Int) < 2 ^ k := by exact_mod_cast Nat.two_pow_pos k
  have h5 : (2 : Int) ^ 31 = 2147483648 := by decide
  rw [h5] at h3
  rw [h2]
  generalize (2 : Int) ^ k = x at *
  constructor
  · rw [bne_iff_ne]; omega
  · omega
set_option maxHeartbeats 1000000 in
theorem width_uint32 (w : World) : Calls Try.prog 80 #[] w fun e w' => e = .returned (.int .i64 4) ∧ w = w' := by
  go_enter Try.func80, Try.ntmps80
  go_wp2
  go_loop [1, 2] (fun n x => ∃ (k : Nat) (X : Int), k ≤ 32 ∧ Hid (X = (2 : Int) ^ k % 4294967296) ∧ n = .int .i64 k ∧ x = .int .u32 X) (fun n _ => 32 - (intOf n).toNat)
  case atStart => exact ⟨0, 1, by omega, by show _ = _; decide, rfl, rfl⟩
  case round =>
    obtain ⟨k, X, hk, HX, rfl, rfl⟩ := hrel
    by_cases hlt : k < 32
    · have hs := width_step_u32 k hlt
      rw [← HX.out] at hs
      have h1 := hs.1
      have H2 := Lib.hid hs.2
      clear hs
      go_wp2
      go_round
      case rel => exact ⟨k + 1, _, by omega, H2.out, by go_num, by first | rfl | (simp [IntKind.wrap, IntKind.bits, IntKind.signed])⟩
      case measure => simp [intOf]; omega
    · obtain rfl : k = 32 := by omega
      obtain rfl : X = 0 := by rw [HX.out]; decide
      go_wp2
      go_ret
      exact ⟨rfl, rfl⟩

set_option maxHeartbeats 1000000 in
theorem New_any (w : World) : Calls Try.prog 60 #[] w fun e w' => e = .returned (.pointer (some ⟨w.heap.size, 0, none⟩)) ∧ w.alloc (.cells #[.bool true, .slice none 0 0] 142) = w' := by
  go_enter Try.func60, Try.ntmps60
  go_wp2
  go_ret
  exact ⟨rfl, rfl⟩

/-- a writer that New made: its block, what was laid into it -/
def Wr (w : World) (B p : Nat) (bs : List UInt8) : Prop :=
  B ≤ p ∧ ∃ sl, w.heap[p]? = some (.cells #[.bool true, sl] 142 (0, 0)) ∧ OwnB w B sl bs

theorem Wr.new (w : World) : Wr (w.alloc (.cells #[.bool true, .slice none 0 0] 142)) w.heap.size w.heap.size [] :=
  ⟨Nat.le_refl _, _, heap_new _ _, OwnB.nil _ _⟩

/-- a row's block is not the writer's own -/
theorem OwnB.ne {w : World} {B p : Nat} {sl : Value} {bs : List UInt8} {cs : Array Value} (h : OwnB w B sl bs) (hp : w.heap[p]? = some (.cells cs 142 (0, 0))) : sl.ownBlock ≠ some p := by
  intro e
  rcases h.2 with ⟨rfl, _⟩ | ⟨g, cap, cur, rfl, _, hg, _⟩
  · simp [Value.ownBlock] at e
  · simp [Value.ownBlock] at e
    subst e
    rw [hp] at hg
    simp at hg

theorem Wr.put {w w' : World} {B p g cap L : Nat} {sl : Value} {bs new : List UInt8} (hB : B ≤ p) (hp : w.heap[p]? = some (.cells #[.bool true, sl] 142 (0, 0))) (hown : OwnB w B sl bs)
    (hown' : OwnB w' B (.slice (some ⟨g, 0, none⟩) L cap) (bs ++ new)) (hg : w.grownBy w' sl.ownBlock) (hgp : g ≠ p) (hBw : B ≤ w.heap.size) :
    Wr (w'.setCell ⟨p, 1, none⟩ (.slice (some ⟨g, 0, none⟩) L cap)) B p (bs ++ new) ∧ Below B w (w'.setCell ⟨p, 1, none⟩ (.slice (some ⟨g, 0, none⟩) L cap)) := by
  have hp' := heap_grown hp hg (Ne.symm (hown.ne hp))
  refine ⟨⟨hB, _, heap_set hp' _, ?_⟩, ?_⟩
  · refine OwnB.setOther (p := p) hown' ?_ _
    simpa [Value.ownBlock] using hgp
  · refine Below.setCell ((Below.refl B w).grown hg hBw (fun k hk => (hown.lt k hk).1)) ?_ _
    exact hB

set_option maxHeartbeats 1000000 in
theorem Put_uint32 (n : Int) (B p : Nat) (bs : List UInt8) (w : World) (hn : 0 ≤ n ∧ n < 4294967296) (hw : Wr w B p bs) (hl : bs.length ≤ 1000000) :
    Calls Try.prog 61 #[.pointer (some ⟨p, 0, none⟩), .int .u32 n] w fun e w' => e = .returned (.tuple #[]) ∧ Wr w' B p (bs ++ be 4 n.toNat) ∧ Below B w w' := by
  have hm : w.cell? ⟨p, 0, none⟩ = some (.bool true) := by obtain ⟨_, sl, h, _⟩ := hw; rw [heap_cell h]; rfl
  go_enter Try.func61, Try.ntmps61
  go_wp2_with (go_at_call 80; refine (width_uint32 _).mono ?_; rintro e w' ⟨rfl, rfl⟩)
  go_loopw [4] (fun i wr => ∃ (k : Nat) (I : Int), k ≤ 4 ∧ Hid (Wr wr B p (bs ++ (be 4 n.toNat).take k)) ∧ Hid (Below B w wr) ∧ Hid (I = 3 - (k : Int)) ∧ i = .int .i64 I) (fun i _ => (intOf i + 1).toNat)
  case atStart => exact ⟨0, _, by omega, by simpa [Hid] using hw, Below.refl _ _, rfl, rfl⟩
  case round =>
    obtain ⟨k, I, hk, HW, HB, HI, rfl⟩ := hrel
    by_cases hlt : k < 4
    · obtain ⟨hBp, sl, hp, hown⟩ := HW.out
      have hplt := heap_lt hp
      have c1 : wr.cell? ⟨p, 1, none⟩ = some sl := by rw [heap_cell hp]; rfl
      have hI : 0 ≤ I ∧ I < 4 := by have := HI.out; omega
      have d0 : decide ((0 : Int) ≤ I) = true := by simp; omega
      have HP := Lib.hid hp
      have HO := Lib.hid hown
      clear hp hown hplt
      obtain ⟨b, hb⟩ : ∃ b : UInt8, n / 2 ^ (8 * I).toNat % 256 = (b.toNat : Int) := ⟨UInt8.ofNat (n.toNat / 256 ^ (3 - k) % 256), by
        have e1 : (8 * I).toNat = 8 * (3 - k) := by have := HI.out; omega
        rw [e1]; exact byte_of n hn.1 _⟩
      have Hb : Hid ((be 4 n.toNat).take (k + 1) = (be 4 n.toNat).take k ++ [b]) := by
        show _ = _
        rw [be_take_succ _ _ _ hlt]
        have e1 : (8 * I).toNat = 8 * (3 - k) := by have := HI.out; omega
        rw [e1, byte_of n hn.1 _] at hb
        have h9 : (UInt8.ofNat (n.toNat / 256 ^ (3 - k) % 256)).toNat = b.toNat := by omega
        have h10 : UInt8.ofNat (n.toNat / 256 ^ (4 - 1 - k) % 256) = b := UInt8.toNat_inj.1 h9
        rw [h10]
      obtain ⟨bs', hbs⟩ : ∃ bs', bs' = bs ++ (be 4 n.toNat).take k := ⟨_, rfl⟩
      rw [← hbs] at HO
      have hl' : bs'.length ≤ 2000000 := by rw [hbs]; simp [be_length]; omega
      have HS := Lib.hid hbs
      have HBw := HB.out.size
      have f1 : wr.frozen? ⟨p, 1, none⟩ = false := heap_free HP.out 1
      have hplt := heap_lt HP.out
      clear hbs
      have Hne := Lib.hid (HO.out.ne HP.out)
      go_wp2_with (at_builtin; refine wpList_appB _ rfl _ _ rfl B sl bs' rfl (HO.out.alloc _) ⟨wr.heap.size, 0, none⟩ 1 [b] rfl (app_cell1 _ _ _) (by simp) (by simp only [List.length_singleton]; omega) (by simp only [World.size_alloc]; omega) (wr.heap.size + 1) (by simp) ?_; intro g cap w2 hown2 hg2 hat hlt2; have c2 : w2.cell? ⟨p, 1, none⟩ = some sl := (hg2.cell_far ⟨p, 1, none⟩ (by simp only [World.size_alloc]; omega) (Ne.symm Hne.out)).trans (cellA c1); have f2 : w2.frozen? ⟨p, 1, none⟩ = false := by rw [hg2.frozen_far ⟨p, 1, none⟩ (by simp only [World.size_alloc]; omega) (Ne.symm Hne.out)]; exact heap_free (heap_alloc HP.out) 1)
      have hgp : g ≠ p := by
        rcases hat with h | h
        · intro e; subst e; exact Hne.out h
        · omega
      have hfin := Wr.put (new := [b]) hBp (heap_alloc HP.out) (HO.out.alloc _) hown2 hg2 hgp (by simp only [World.size_alloc]; omega)
      rw [HS.out, List.append_assoc, ← Hb.out] at hfin
      go_roundw
      case rel => exact ⟨k + 1, _, by omega, by rw [← HS.out] at hfin; rw [HS.out] at hfin ⊢; exact hfin.1, (HB.out.trans ((Below.refl _ _).alloc (by omega) _)).trans (by rw [HS.out]; exact hfin.2), by show _ = _; have := HI.out; omega, rfl⟩
      case measure => simp [intOf]; omega
    · have d0 : decide ((0 : Int) ≤ I) = false := by have := HI.out; simp; omega
      go_wp2
      go_end0
      have : k = 4 := by omega
      subst this
      exact ⟨rfl, by rw [List.take_of_length_le (by rw [be_length]; exact Nat.le_refl _)] at HW; exact HW.out, HB.out⟩

end Go.Proofs.Ytkngmnfgdlnddaa
