/-
  The laws' awake: what the document fixes of one page.
-/
import Derived.Test.YtfhfeaipdmcekaaPagePure
namespace Go.Proofs.Ytfhfeaipdmcekaa
open Go.RowKit Hw
set_option linter.unusedVariables false

def awakeS : ByteArray := writeS 1024 32 1 2 1 ab
theorem awake_check : checkI 1024 32 1 2 1 ab.size = 0 := by decide +kernel
theorem awake_W : awakeS = bstr (formOf 1024 1 2 1 [97, 98]) := by
  unfold awakeS
  rw [writeS, if_pos awake_check]
  rfl
theorem awake_size : awakeS.size = 1024 := by
  rw [awake_W, bstr_size, form_length (by decide)]
  decide
theorem awake_head : awakeS.extract 0 8 = ⟨#[72, 87, 80, 71, 1, 1, 0, 2]⟩ := by
  have e : formOf 1024 1 2 1 [97, 98] = [72, 87, 80, 71, 1, 1, 0, 2] ++ ((be 4 2 ++ (be 4 0 ++ (be 8 1 ++ be 4 0))) ++ (be 4 (crcOf (headOf 1 2 1 2 ++ bodyOf 1024 [97, 98])).toNat ++ bodyOf 1024 [97, 98])) := by
    rw [form_split]
    have h2 : ([97, 98] : List UInt8).length = 2 := rfl
    rw [h2]
    generalize be 4 (crcOf (headOf 1 2 1 2 ++ bodyOf 1024 [97, 98])).toNat ++ bodyOf 1024 [97, 98] = t
    have h : headOf 1 2 1 2 = [72, 87, 80, 71, 1, 1, 0, 2] ++ (be 4 2 ++ (be 4 0 ++ (be 8 1 ++ be 4 0))) := by decide +kernel
    rw [h, List.append_assoc]
  have h := extract_bstr [] [72, 87, 80, 71, 1, 1, 0, 2] ((be 4 2 ++ (be 4 0 ++ (be 8 1 ++ be 4 0))) ++ (be 4 (crcOf (headOf 1 2 1 2 ++ bodyOf 1024 [97, 98])).toNat ++ bodyOf 1024 [97, 98])) 0 8 rfl rfl
  rw [List.nil_append] at h
  rw [awake_W, e, h]
  rfl
theorem awake_body : awakeS.extract 32 35 = ⟨#[97, 98, 0]⟩ := by
  have hb : bodyOf 1024 [97, 98] = [97, 98, 0] ++ List.replicate 989 0 := by decide +kernel
  have e : formOf 1024 1 2 1 [97, 98] = (headOf 1 2 1 2 ++ be 4 (crcOf (headOf 1 2 1 2 ++ bodyOf 1024 [97, 98])).toNat) ++ ([97, 98, 0] ++ List.replicate 989 0) := by
    rw [form_split]
    have h2 : ([97, 98] : List UInt8).length = 2 := rfl
    rw [h2]
    generalize be 4 (crcOf (headOf 1 2 1 2 ++ bodyOf 1024 [97, 98])).toNat = t
    rw [hb, List.append_assoc]
  rw [awake_W, e]
  exact extract_bstr _ _ _ 32 35 (by rw [List.length_append, head_length, be_length]) rfl
theorem awake_read : readV 1024 32 awakeS = .tuple #[.agg #[.int .u8 1, .int .u32 2, .int .u64 1, .string ab], .int .i64 0] := by
  obtain ⟨h1, h2, h3, h4, h5⟩ := read_write (a := 1024) (b := 32) (k := 1) (n := 2) (r := 1) (s := ab) (by decide) (by decide) (by decide) awake_check
  unfold awakeS
  rw [readV, h1, if_pos rfl, h2, h3, h4, h5]

set_option maxHeartbeats 2000000 in
theorem awake_any (w : World) : Calls Try.prog 17 #[] w fun e w' => e = .returned (.bool true) ∧ Below w.heap.size w w' := by
  go_enter Try.func17, Try.ntmps17
  go_wp2_with fail
  refine (plain_any _).mono ?_
  rintro e w1 ⟨rfl, hb1⟩
  have hz1 := hb1.size
  have hB1 := Lib.hid hb1
  clear hb1
  go_wp2_with fail
  refine (Write_any 1024 32 1 2 1 ab _ (by decide) (by decide) (by decide) (by decide) (by decide)).mono ?_
  rintro e w2 ⟨rfl, hb2⟩
  rw [awake_check, show writeS 1024 32 1 2 1 ab = awakeS from rfl]
  have hB2 := Lib.hid hb2
  have c0 := cellB (o := 0) hb2 (by simp only [World.size_alloc]; omega) (v := .int .i64 1024) (b := w1.heap.size) (by go_simp)
  have c1 := cellB (o := 1) hb2 (by simp only [World.size_alloc]; omega) (v := .int .i64 32) (b := w1.heap.size) (by go_simp)
  have d0 := cellB (o := 0) hb2 (by simp only [World.size_alloc]; omega) (v := .int .u8 1) (b := w1.heap.size + 1) (by go_simp)
  have d1 := cellB (o := 1) hb2 (by simp only [World.size_alloc]; omega) (v := .int .u32 2) (b := w1.heap.size + 1) (by go_simp)
  have d2 := cellB (o := 2) hb2 (by simp only [World.size_alloc]; omega) (v := .int .u64 1) (b := w1.heap.size + 1) (by go_simp)
  have d3 := cellB (o := 3) hb2 (by simp only [World.size_alloc]; omega) (v := .string ab) (b := w1.heap.size + 1) (by go_simp)
  have hz2 := hb2.size
  simp only [World.size_alloc] at hz2
  clear hb2
  obtain ⟨S, hS⟩ : ∃ S, awakeS = S := ⟨_, rfl⟩
  have hrd := awake_read
  have hsz := awake_size
  have hh := awake_head
  have hbd := awake_body
  rw [hS] at hrd hsz hh hbd
  rw [hS]
  go_wp2_with fail
  refine (Read_any 1024 32 S _ (by decide) (by omega)).mono ?_
  rintro e w3 ⟨rfl, hb3⟩
  rw [hrd]
  have e0 := cellB (o := 0) hb3 (by omega) d0
  have e1 := cellB (o := 1) hb3 (by omega) d1
  have e2 := cellB (o := 2) hb3 (by omega) d2
  have e3 := cellB (o := 3) hb3 (by omega) d3
  have f0 := fun o => cellA (o := o) e0
  have f1 := fun o => cellA (o := o) e1
  have f2 := fun o => cellA (o := o) e2
  have f3 := fun o => cellA (o := o) e3
  clear c0 c1 d0 d1 d2 d3 e0 e1 e2 e3 hrd
  have l1 : (8 : Int) ≤ (S.size : Int) := by omega
  have l2 : (35 : Int) ≤ (S.size : Int) := by omega
  have l3 : ((S.size : Int) == 1024) = true := by rw [hsz]; rfl
  have b1 : ((S.extract 0 8).toList == [72, 87, 80, 71, 1, 1, 0, 2]) = true := by rw [hh, ByteArray.toList_eq]; rfl
  have b2 : ((S.extract 32 35).toList == [97, 98, 0]) = true := by rw [hbd, ByteArray.toList_eq]; rfl
  have Hsz := Lib.hid hsz
  have hB3 := Lib.hid hb3
  clear hsz hh hbd hb3
  go_wp2_with fail
  go_ret
  refine ⟨rfl, ?_⟩
  have k1 : Below w.heap.size w w1 := hB1.out
  have k2 := (k1.alloc hz1 _).alloc (by simp only [World.size_alloc]; omega) _ |>.trans (hB2.out.mono (by simp only [World.size_alloc]; omega))
  exact (k2.trans (hB3.out.mono (by omega))).alloc (by have := hB3.out.size; omega) _
end Go.Proofs.Ytfhfeaipdmcekaa
