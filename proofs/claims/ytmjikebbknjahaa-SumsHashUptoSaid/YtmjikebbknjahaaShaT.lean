/-
  sums.Sum: SHA-256 of a string.
-/
import Derived.Test.YtmjikebbknjahaaShaS
namespace Go.Proofs.Ytmjikebbknjahaa
open Go.RowKit Go.Lib Hw
set_option linter.unusedVariables false

theorem StrRow.one (w : World) (x : ByteArray) (t : TypeId) : StrRow (w.alloc (.cells #[.string x] t)) (.slice (some ⟨w.heap.size, 0, none⟩) 1 1) [x] := by
  refine ⟨some ⟨w.heap.size, 0, none⟩, 1, rfl, (fun h => by cases h), fun _ => ⟨w.heap.size, 0, rfl, fun i h => ?_⟩⟩
  have hn := cell_of_row (w.alloc (.cells #[.string x] t)) w.heap.size (0 + i) #[.string x] t (0, 0) (heap_alloc_new w _)
  rw [hn]
  match i, h with
  | 0, _ => rfl
/-- a digest as a value -/
def dv (l : List UInt8) : Value := .agg (l.map bv).toArray
theorem setCells_hs (vs : List Value) (w : World) (b o : Nat) : (w.setCells b o vs).heap.size = w.heap.size := by
  induction vs generalizing o w with
  | nil => rfl
  | cons v r ih => exact (ih _ _).trans (by simp [World.setCell])
/-- the store of a whole digest -/
theorem wpList_storeD {ops : Array Oper} {rest : List Oper} {o : Oper} {a : Act} {w : World} {Q : Exit → Act → World → Prop} (hgd : o.guard = none) (x y : Operand) (ho : o.op = .store 39 x y) (b : Nat) (hx : a.eval x = .pointer (some ⟨b, 0, none⟩)) (l m : List UInt8) (hl : l.length = 32) (hm : m.length = 32) (hy : a.eval y = dv m) (hd : DB w b l)
    (h : ∀ W, DB W b m → Below b w W → Kept b w W → W.heap.size = w.heap.size → wpList Try.prog ops Q rest (a.put o.dst undef) W) : wpList Try.prog ops Q (o :: rest) a w := by
  refine wpList_store_mid hgd 39 _ _ ho b 0 (m.map bv).toArray hx hy ?_ (info_D.trans (congrArg some ((List.length_map _).trans hm).symm)) (by simp [bv]; intros; rfl) ?_
  · have := there_all hd
    simpa [hl, hm] using this
  · refine h _ (hd.store m (by omega)) (setCells_below _ _ _ _ _ (Nat.le_refl _)) ?_ (setCells_hs ..)
    have h1 := setCells_below (m.map bv) w b 0 b (Nat.le_refl _)
    exact ⟨h1.os, h1.tape, h1.output, h1.size, fun k _ hk => setCells_other _ _ _ _ _ hk⟩

set_option maxHeartbeats 2000000 in
theorem Sum_any (s : ByteArray) (w : World) (hs : s.size ≤ 1000000000000000000) :
    Calls Try.prog 31 #[.string s] w fun e w' => e = .returned (dv (sha256 s.data.toList)) ∧ Below w.heap.size w w' := by
  go_enter Try.func31, Try.ntmps31
  go_upto_region 0 with fail
  refine wp_region_list ?_
  refine wpList_allocB rfl 39 rfl w.heap.size rfl _ zero_D ?_
  intro w1 h1 hB1 hz1
  have Hd0 := Lib.hid h1
  have HB1 := Lib.hid hB1
  clear h1 hB1
  go_wp2_with fail
  refine (New_any _).mono ?_
  rintro e w2 ⟨p, rfl, hp1, hp2, hH2, hb2⟩
  have HH2 := Lib.hid hH2
  have HB2 := Lib.hid hb2
  clear hH2 hb2
  go_wp2_with fail
  have hz2 := HB2.out.size
  have hlt2 := HH2.out.lt
  have Hw : Hid (HashB (w2.alloc (.cells #[.string s] 9)) (w.heap.size + 1) p (.slice none 0 0) [] (([] : List UInt8).length : Nat)) := by
    have := HH2.out.below ((Below.refl w2.heap.size w2).alloc (Nat.le_refl _) (.cells #[.string s] 9)) hp2 hlt2.2
    rw [hz1] at this
    exact this
  have hB : w.heap.size + 1 ≤ (w2.alloc (.cells #[.string s] 9)).heap.size := by simp only [World.size_alloc]; omega
  refine (Write_any (w.heap.size + 1) p (.slice none 0 0) [] _ [s] _ Hw (StrRow.one _ _ _) ?_ hB (by simp) ?_).mono ?_
  · intro k hk
    have h1 : w2.heap.size = k := Option.some.inj hk
    rintro (h | h)
    · omega
    · cases h
  · have h1 : (flat [s]).length = s.size := by simp only [flat, List.flatMap_cons, List.flatMap_nil, List.append_nil, data_len]
    rw [h1]
    simp only [List.length_nil]
    omega
  rintro e w4 ⟨rv', rfl, hH4, hO4, hM4⟩
  have hl : [] ++ flat [s] = s.data.toList := by simp [flat]
  rw [hl] at hH4
  have HH4 := Lib.hid hH4
  have HB4 := Lib.hid (hM4.below (n := w.heap.size + 1) (fun k hk h => h.elim (fun h => by omega) (fun h => by cases h)) hB)
  clear hH4 hO4 hM4 Hw hlt2
  go_wp2_with fail
  refine (HSum_any _ _ _ _ _ HH4 (by rw [data_len]; exact hs)).mono ?_
  rintro e w5 ⟨rfl, hb5⟩
  have hz4 := HB4.out.size
  have HD5 : Hid (DB w5 w.heap.size zeros32) := heap_below (heap_below (heap_alloc (heap_below Hd0.out HB2.out (by omega))) HB4.out (by omega)) hb5 (by omega)
  have HB5 : Hid (Below w.heap.size w w5) := (((HB1.out.trans (HB2.out.mono (by omega))).alloc (by omega) _).trans (HB4.out.mono (by omega))).trans (hb5.mono (by omega))
  have h32 : zeros32.length = 32 := rfl
  have Hl := Lib.hid (sha256_length s.data.toList)
  clear hb5 HB4 HH4 hz4 HB2 HH2 Hd0 HB1
  go_wp2_with (refine wpList_storeD rfl _ _ rfl w.heap.size rfl zeros32 (sha256 s.data.toList) h32 Hl.out rfl HD5.out ?_; intro w6 hd6 hb6 hk6 hz6)
  refine bodyPost_ret (v := dv (sha256 s.data.toList)) ?_ rfl ⟨rfl, HB5.out.trans hb6⟩
  exact results_cell1 Try.results31 rfl (DB.load hd6 Hl.out)
end Go.Proofs.Ytmjikebbknjahaa
