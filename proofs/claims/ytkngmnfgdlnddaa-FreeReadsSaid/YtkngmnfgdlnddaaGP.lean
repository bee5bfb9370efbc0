/-
  The walk of apart: lists that do not share memory are told apart.
-/
import Derived.Test.YtkngmnfgdlnddaaGO
set_option linter.unusedSimpArgs false
set_option linter.unusedVariables false
namespace Go.Proofs.Ytkngmnfgdlnddaa
open Go.RowKit Go.Lib Hw Go.Maps
set_option linter.unusedSimpArgs false
set_option linter.unusedVariables false

def MKn (b i : Nat) : Nat := (b + i) % 4294967296
theorem mkn (b i : Nat) (B : Int) (hB : B = (b : Int)) (h : b + i < 4611686018427387904) : ∃ y m : Nat, B + (i : Int) = (y : Int) ∧ IntKind.i64.wrap (y : Int) = (y : Int) ∧ IntKind.u32.wrap (y : Int) = (m : Int) ∧ MKn b i = m := by
  refine ⟨b + i, MKn b i, by omega, IntWalk.i64_in _ (by omega), ?_, rfl⟩
  unfold MKn
  simp [IntKind.wrap, IntKind.bits, IntKind.signed]
def m1 (i : Nat) : List Value := [uN (MKn 100000 i)]
def m2 (i : Nat) : List Value := [uN (MKn 200000 i), .slice none 0 0]
def m3 (i : Nat) : List Value := [uN (MKn 300000 i)]
def m4 (i : Nat) : List Value := [uN (MKn 400000 i), .slice none 0 0]
theorem info_U : (Try.prog.info? 27).map (fun i => (i.zero, i.size, i.bytes)) = some (some (.int .u32 0), 1, 4) := by kernel_rfl
theorem info_V : (Try.prog.info? 28).map (fun i => (i.zero, i.size, i.bytes)) = some (some (.slice none 0 0), 1, 24) := by kernel_rfl
theorem info_W : (Try.prog.info? 44).map (fun i => (i.zero, i.size, i.bytes)) = some (some (.slice none 0 0), 1, 24) := by kernel_rfl
set_option maxRecDepth 5000 in
set_option maxHeartbeats 16000000 in
theorem apart_any (lab : Nat → Nat) (l c : Value) (n1 n2 : Nat) (vs us : List Value) (ln lb : Nat → Nat) (w : World)
    (hvl : Hid (ReadR 1 w l n1 vs)) (hcl : Hid (ReadR 1 w c n2 us)) (hl0 : Hid (∀ g, l.ownBlock = some g → lab g = 0)) (hc0 : Hid (∀ g, c.ownBlock = some g → lab g = 0))
    (hv : Hid (∀ j (h : j < vs.length), ∃ cs, OwnR 27 1 w 0 vs[j] (ln j) cs)) (hu : Hid (∀ j (h : j < us.length), ∃ cs, OwnR 64 2 w 0 us[j] (lb j) cs))
    (hvL : Hid (Lab lab 0 w.heap.size vs)) (huL : Hid (Lab lab n1 w.heap.size us))
    (hz1 : Hid (∀ j, j < n1 → (ln j + 70) * 4 ≤ 140737488355328)) (hz2 : Hid (∀ j, j < n2 → (lb j + 70) * 32 ≤ 140737488355328)) (hz3 : Hid (n1 * 24 ≤ 140737488355328)) (hz4 : Hid (n2 * 24 ≤ 140737488355328)) (hlz : Hid (∀ g, w.heap.size ≤ g → lab g = 0)) :
    Calls Try.prog 28 #[l, c] w fun e w' => e = .returned (.bool true) ∧ Mod (fun g => lab g ≠ 0) w w' := by
  obtain ⟨lad, lc, hx1, hx3⟩ := hvl.out.form
  obtain ⟨cad, cc, hx2, hx4⟩ := hcl.out.form
  subst hx1 hx2
  have hn1 : vs.length = n1 := by rw [hvl.out.1]; omega
  have hn2 : us.length = n2 := by rw [hcl.out.1]; omega
  have HN1 := Lib.hid hn1
  have HN2 := Lib.hid hn2
  obtain ⟨Z, hZ⟩ : ∃ Z, w.heap.size = Z := ⟨_, rfl⟩
  have HZ := Lib.hid hZ
  rw [hZ] at hvL huL
  clear hn1 hn2 hZ
  go_enter Try.func28, Try.ntmps28
  go_upto_region 2 with fail
  go_loopw [5] (fun iv wr => ∃ (i : Nat), i ≤ n1 ∧ Hid (MarkS 27 1 vs ln m1 wr i 0) ∧ Hid (Mod (fun g => g < Z ∧ lab g ≠ 0 ∧ lab g ≤ n1) w wr) ∧ iv = .int .i64 (i : Int)) (fun iv _ => n1 - (intOf iv).toNat)
  case atStart => exact ⟨0, Nat.zero_le _, MarkS.start hv.out, Mod.refl _ _, rfl⟩
  case round =>
    obtain ⟨i, hi, HS, HM, rfl⟩ := hrel
    by_cases hlt : i < n1
    case pos =>
      have ii : (i : Int) < (n1 : Int) := by omega
      have hiv : i < vs.length := by have := HN1.out; omega
      obtain ⟨i9, hi9⟩ : ∃ k9 : Nat, k9 = i + 1 := ⟨_, rfl⟩
      have ew1 : (i : Int) + 1 = (i9 : Int) := by omega
      have ew2 : IntKind.i64.wrap (i9 : Int) = (i9 : Int) := IntWalk.i64_in _ (by omega)
      have hi3 : i9 ≤ n1 := by omega
      have hi4 : n1 - i9 < n1 - i := by omega
      obtain ⟨y, m, ea, eb, ec, ed⟩ := mkn 100000 i 100000 rfl (by have := hz3.out; omega)
      have HE := Lib.hid ed
      have HI9 := Lib.hid hi9
      obtain ⟨cs0, hcs0, hq1⟩ := HS.out i hiv
      obtain ⟨vad, vcap, hve, hq2⟩ := hcs0.form
      have HVE := Lib.hid hve
      obtain ⟨lg, lo, hla, hlg, hlc⟩ := hvl.out.at (by omega)
      have hcell := hlc i (by omega)
      rw [hve] at hcell
      have hlab0 : lab lg = 0 := hl0.out lg (by rw [hla]; rfl)
      subst hla
      have HC := Lib.hid hcell
      clear ed hi9 hcs0 hve hlc hcell hq1 hq2 hlt
      go_upto_region 5 with fail
      go_loopw [6] (fun kv wr2 => ∃ (k : Nat), k ≤ ln i ∧ Hid (MarkS 27 1 vs ln m1 wr2 i k) ∧ Hid (Mod (fun g => g < Z ∧ lab g ≠ 0 ∧ lab g ≤ n1) w wr2) ∧ kv = .int .i64 (k : Int)) (fun kv _ => ln i - (intOf kv).toNat)
      case atStart => exact ⟨0, Nat.zero_le _, HS, HM, rfl⟩
      case round =>
        clear HS HM
        obtain ⟨k, hk, HS, HM, rfl⟩ := hrel
        have f1 : wr.cell? ⟨lg, lo + i, none⟩ = some (.slice vad (ln i) vcap) := (HM.out.heapc (o := lo + i) (b := lg) hlg (fun h => h.2.1 hlab0)).trans HC.out
        by_cases hkl : k < ln i
        case pos =>
          have ik : (k : Int) < (ln i : Int) := by omega
          obtain ⟨cs1, hcs1, hq1, hq2⟩ := HS.out i hiv
          rw [HVE.out] at hcs1
          obtain ⟨vg, vo, cur, hva, hq3, hcur, hsz, hq4⟩ := hcs1.at (by omega)
          subst hva
          obtain ⟨cv, hcv⟩ : ∃ x, cur[vo + k]? = some x := ⟨_, Array.getElem?_eq_getElem (by omega)⟩
          have g1 := heap_cell hcur (o := vo + k)
          rw [hcv] at g1
          have g2 := heap_free hcur (vo + k)
          have hvlab := hvL.out i hiv vg (by rw [HVE.out]; rfl)
          obtain ⟨k9, hk9⟩ : ∃ k9 : Nat, k9 = k + 1 := ⟨_, rfl⟩
          have kw1 : (k : Int) + 1 = (k9 : Int) := by omega
          have kw2 : IntKind.i64.wrap (k9 : Int) = (k9 : Int) := IntWalk.i64_in _ (by have := hz1.out i (by omega); omega)
          have hk3 : k9 ≤ ln i := by omega
          have hk4 : ln i - k9 < ln i - k := by omega
          have S5 : Hid (MarkS 27 1 vs ln m1 (wr.setCell ⟨vg, vo + k, none⟩ (.int .u32 (m : Int))) i k9) := by
            have h := HS.out.step hvL.out hiv hkl rfl HVE.out
            rw [Nat.mul_one] at h
            have e : m1 i = [.int .u32 (m : Int)] := by unfold m1 uN; rw [HE.out]
            rw [e] at h
            rw [hk9]
            exact h
          have M5 : Hid (Mod (fun g => g < Z ∧ lab g ≠ 0 ∧ lab g ≤ n1) w (wr.setCell ⟨vg, vo + k, none⟩ (.int .u32 (m : Int)))) := HM.out.then (Mod.set (S := fun g => g < Z ∧ lab g ≠ 0 ∧ lab g ≤ n1) _ ⟨hvlab.1, by omega, by omega⟩ _)
          clear hkl hcs1 hq1 hq2 hq3 hcur hsz hq4 hcv hvlab hk9 HS HM
          go_wp2_with fail
          exact ⟨⟨k9, hk3, S5, M5, rfl⟩, by simp only [intOf, Int.toNat_natCast]; exact hk4⟩
        case neg =>
          have ik : ¬ (k : Int) < (ln i : Int) := by omega
          obtain rfl : k = ln i := by omega
          have S5 : Hid (MarkS 27 1 vs ln m1 wr i9 0) := by show MarkS _ _ _ _ _ _ _ _; rw [HI9.out]; exact HS.out.next
          clear hkl hk HS
          go_wp2_with fail
          exact ⟨⟨i9, hi3, S5, HM, rfl⟩, by simp only [intOf, Int.toNat_natCast]; exact hi4⟩
    case neg =>
      have ii : ¬ (i : Int) < (n1 : Int) := by omega
      have DA : Hid (MarkD 27 1 vs ln m1 wr) := HS.out.done (by have := HN1.out; omega)
      have BA : Hid (∀ j (h : j < us.length), ∃ cs, OwnR 64 2 wr 0 us[j] (lb j) cs) := fun j hj => by
        obtain ⟨cs, h⟩ := hu.out j hj
        exact ⟨cs, h.mod HM.out (fun q hq hs => by have := huL.out j hj q hq; omega)⟩
      have MA : Hid (Mod (fun g => g < Z ∧ lab g ≠ 0) w wr) := HM.out.mono (fun q _ h => ⟨h.1, h.2.1⟩)
      clear HS HM hlt hi
      go_upto_region 9 with fail
      clear ii
      obtain ⟨wA, hwA⟩ : ∃ W, W = wr := ⟨_, rfl⟩
      subst hwA
      go_loopw [7] (fun iv wr => ∃ (i : Nat), i ≤ n2 ∧ Hid (MarkS 64 2 us lb m2 wr i 0) ∧ Hid (Mod (fun g => g < Z ∧ lab g ≠ 0 ∧ n1 < lab g) wA wr) ∧ iv = .int .i64 (i : Int)) (fun iv _ => n2 - (intOf iv).toNat)
      case atStart => exact ⟨0, Nat.zero_le _, MarkS.start BA.out, Mod.refl _ _, rfl⟩
      case round =>
        obtain ⟨i, hi, HS, HM, rfl⟩ := hrel
        by_cases hlt : i < n2
        case pos =>
          have ii : (i : Int) < (n2 : Int) := by omega
          have hiv : i < us.length := by have := HN2.out; omega
          obtain ⟨i9, hi9⟩ : ∃ k9 : Nat, k9 = i + 1 := ⟨_, rfl⟩
          have ew1 : (i : Int) + 1 = (i9 : Int) := by omega
          have ew2 : IntKind.i64.wrap (i9 : Int) = (i9 : Int) := IntWalk.i64_in _ (by omega)
          have hi3 : i9 ≤ n2 := by omega
          have hi4 : n2 - i9 < n2 - i := by omega
          obtain ⟨y, m, ea, eb, ec, ed⟩ := mkn 200000 i 200000 rfl (by have := hz4.out; omega)
          have HE := Lib.hid ed
          have HI9 := Lib.hid hi9
          obtain ⟨cs0, hcs0, hq1⟩ := HS.out i hiv
          obtain ⟨vad, vcap, hve, hq2⟩ := hcs0.form
          have HVE := Lib.hid hve
          obtain ⟨lg, lo, hla, hlg, hlc⟩ := hcl.out.at (by omega)
          have hcell := hlc i (by omega)
          rw [hve] at hcell
          have hlab0 : lab lg = 0 := hc0.out lg (by rw [hla]; rfl)
          subst hla
          have HC : Hid (wA.cell? ⟨lg, lo + i, none⟩ = some (.slice vad (lb i) vcap)) := (MA.out.heapc (o := lo + i) (b := lg) hlg (fun h => h.2 hlab0)).trans hcell
          have hlgA : lg < wA.heap.size := Nat.lt_of_lt_of_le hlg MA.out.size
          clear ed hi9 hcs0 hve hlc hcell hq1 hq2 hlt
          go_upto_region 12 with fail
          go_loopw [8] (fun kv wr2 => ∃ (k : Nat), k ≤ lb i ∧ Hid (MarkS 64 2 us lb m2 wr2 i k) ∧ Hid (Mod (fun g => g < Z ∧ lab g ≠ 0 ∧ n1 < lab g) wA wr2) ∧ kv = .int .i64 (k : Int)) (fun kv _ => lb i - (intOf kv).toNat)
          case atStart => exact ⟨0, Nat.zero_le _, HS, HM, rfl⟩
          case round =>
            clear HS HM
            obtain ⟨k, hk, HS, HM, rfl⟩ := hrel
            have f1 : wr.cell? ⟨lg, lo + i, none⟩ = some (.slice vad (lb i) vcap) := (HM.out.heapc (o := lo + i) (b := lg) hlgA (fun h => h.2.1 hlab0)).trans HC.out
            by_cases hkl : k < lb i
            case pos =>
              have ik : (k : Int) < (lb i : Int) := by omega
              obtain ⟨cs1, hcs1, hq1, hq2⟩ := HS.out i hiv
              rw [HVE.out] at hcs1
              obtain ⟨vg, vo, cur, hva, hq3, hcur, hsz, hq4⟩ := hcs1.at (by omega)
              subst hva
              have HT : Hid (wr.there vg (vo + k * 2) 2) := by
                show World.there _ _ _ _
                refine fun j hj => ⟨?_, heap_free hcur _⟩
                rw [heap_cell hcur, Array.getElem?_eq_getElem (by omega)]
                rfl
              have hvlab := huL.out i hiv vg (by rw [HVE.out]; rfl)
              obtain ⟨k9, hk9⟩ : ∃ k9 : Nat, k9 = k + 1 := ⟨_, rfl⟩
              have kw1 : (k : Int) + 1 = (k9 : Int) := by omega
              have kw2 : IntKind.i64.wrap (k9 : Int) = (k9 : Int) := IntWalk.i64_in _ (by have := hz2.out i (by omega); omega)
              have hk3 : k9 ≤ lb i := by omega
              have hk4 : lb i - k9 < lb i - k := by omega
              have S5 : Hid (MarkS 64 2 us lb m2 (wr.setCells vg (vo + k * 2) [.int .u32 (m : Int), .slice none 0 0]) i k9) := by
                have h := HS.out.step huL.out hiv hkl rfl HVE.out
                have e : m2 i = [.int .u32 (m : Int), .slice none 0 0] := by unfold m2 uN; rw [HE.out]
                rw [e] at h
                rw [hk9]
                exact h
              have M5 : Hid (Mod (fun g => g < Z ∧ lab g ≠ 0 ∧ n1 < lab g) wA (wr.setCells vg (vo + k * 2) [.int .u32 (m : Int), .slice none 0 0])) := HM.out.trans (mod_setCells vg _ _ wr) (fun q _ e => by rw [e]; exact ⟨hvlab.1, by omega, by omega⟩)
              clear hkl hcs1 hq1 hq2 hq3 hcur hsz hq4 hvlab hk9 HS HM
              go_upto_region 14 with fail
              with_reducible refine wp_region_list ?_
              (with_reducible refine wpList_plain rfl ?_); intro K hK; go_simp; (with_reducible refine hK _ _ ?_); clear hK K; try simp only [Act.put, nA, nB, nC]
              (with_reducible refine wpList_plain rfl ?_); intro K hK; go_simp; (with_reducible refine hK _ _ ?_); clear hK K; try simp only [Act.put, nA, nB, nC]
              (with_reducible refine wpList_plain rfl ?_); intro K hK; go_simp; (with_reducible refine hK _ _ ?_); clear hK K; try simp only [Act.put, nA, nB, nC]
              (with_reducible refine wpList_plain rfl ?_); intro K hK; go_simp; (with_reducible refine hK _ _ ?_); clear hK K; try simp only [Act.put, nA, nB, nC]
              (with_reducible refine wpList_plain rfl ?_); intro K hK; go_simp; (with_reducible refine hK _ _ ?_); clear hK K; try simp only [Act.put, nA, nB, nC]
              (with_reducible refine wpList_plain rfl ?_); intro K hK; go_simp; (with_reducible refine hK _ _ ?_); clear hK K; try simp only [Act.put, nA, nB, nC]
              (with_reducible refine wpList_plain rfl ?_); intro K hK; go_simp; (with_reducible refine hK _ _ ?_); clear hK K; try simp only [Act.put, nA, nB, nC]
              (with_reducible refine wpList_plain rfl ?_); intro K hK; go_simp; (with_reducible refine hK _ _ ?_); clear hK K; try simp only [Act.put, nA, nB, nC]
              (with_reducible refine wpList_plain rfl ?_); intro K hK; go_simp; (with_reducible refine hK _ _ ?_); clear hK K; try simp only [Act.put, nA, nB, nC]
              (with_reducible refine wpList_plain rfl ?_); intro K hK; go_simp; (with_reducible refine hK _ _ ?_); clear hK K; try simp only [Act.put, nA, nB, nC]
              refine wpList_store_mid rfl 64 _ _ rfl vg (vo + k * 2) #[.int .u32 (m : Int), .slice none 0 0] rfl rfl HT.out info_B (by simp [Value.oneCell']) ?_
              (try simp only [Act.put, nA, nB, nC])
              clear f1 HT
              go_wp2_with fail
              exact ⟨⟨k9, hk3, S5, M5, rfl⟩, by simp only [intOf, Int.toNat_natCast]; exact hk4⟩
            case neg =>
              have ik : ¬ (k : Int) < (lb i : Int) := by omega
              obtain rfl : k = lb i := by omega
              have S5 : Hid (MarkS 64 2 us lb m2 wr i9 0) := by show MarkS _ _ _ _ _ _ _ _; rw [HI9.out]; exact HS.out.next
              clear hkl hk HS
              go_wp2_with fail
              exact ⟨⟨i9, hi3, S5, HM, rfl⟩, by simp only [intOf, Int.toNat_natCast]; exact hi4⟩
        case neg =>
          have ii : ¬ (i : Int) < (n2 : Int) := by omega
          have DB : Hid (MarkD 64 2 us lb m2 wr) := HS.out.done (by have := HN2.out; omega)
          have DA2 : Hid (MarkD 27 1 vs ln m1 wr) := DA.out.mod HM.out (fun j hj q hq hs => by have := hvL.out j hj q hq; have := HN1.out; omega)
          have MB : Hid (Mod (fun g => g < Z ∧ lab g ≠ 0) w wr) := MA.out.trans HM.out (fun q _ h => ⟨h.1, h.2.1⟩)
          clear HS HM hlt hi DA BA MA hv hu
          go_upto_region 17 with fail
          clear ii
          obtain ⟨wB, hwB⟩ : ∃ W, W = wr := ⟨_, rfl⟩
          subst hwB
          go_loopw [9, 10] (fun mv iv wr => ∃ (i : Nat) (gs : List Value) (mad : Option Addr) (mc : Nat), i ≤ n1 ∧ Hid (GI 27 28 1 lab 0 Z vs ln m1 m3 wr i gs (.slice mad i mc)) ∧ Hid (Mod (fun g => (g < Z ∧ lab g ≠ 0 ∧ lab g ≤ n1) ∨ Z ≤ g) wB wr) ∧ mv = .slice mad i mc ∧ iv = .int .i64 (i : Int)) (fun _ iv _ => n1 - (intOf iv).toNat)
          case atStart => exact ⟨0, [], none, 0, Nat.zero_le _, GI.start DA2.out (by have := MB.out.size; have := HZ.out; omega), Mod.refl _ _, rfl, rfl⟩
          case round =>
            obtain ⟨i, gs, mad, mc, hi, HG, HM, rfl, rfl⟩ := hrel
            by_cases hlt : i < n1
            case pos =>
              have ii : (i : Int) < (n1 : Int) := by omega
              have hiv : i < vs.length := by have := HN1.out; omega
              obtain ⟨i9, hi9⟩ : ∃ k9 : Nat, k9 = i + 1 := ⟨_, rfl⟩
              have ew1 : (i : Int) + 1 = (i9 : Int) := by omega
              have ew2 : IntKind.i64.wrap (i9 : Int) = (i9 : Int) := IntWalk.i64_in _ (by omega)
              have hi3 : i9 ≤ n1 := by omega
              have hi4 : n1 - i9 < n1 - i := by omega
              obtain ⟨y, m, ea, eb, ec, ed⟩ := mkn 300000 i 300000 rfl (by have := hz3.out; omega)
              have HE : Hid (m3 i = [.int .u32 (m : Int)]) := by show _ = _; unfold m3 uN; rw [ed]
              have HI9 := Lib.hid hi9
              obtain ⟨vad, vcap, hve, hq2⟩ := (HG.out.own i hiv).form
              have HSZ : Hid (∀ k, k < 70 → (ln i + k + 1) * 4 ≤ 140737488355328) := fun k hk => Nat.le_trans (Nat.mul_le_mul_right 4 (by omega)) (hz1.out i hlt)
              obtain ⟨lg, lo, hla, hlg, hlc⟩ := hvl.out.at (by omega)
              have hcell := hlc i (by omega)
              rw [hve] at hcell
              have hlab0 : lab lg = 0 := hl0.out lg (by rw [hla]; rfl)
              subst hla
              have f1 : wr.cell? ⟨lg, lo + i, none⟩ = some (.slice vad (ln i) vcap) := by
                have h1 := MB.out.heapc (o := lo + i) (b := lg) hlg (fun h => h.2 hlab0)
                have h2 := HM.out.heapc (o := lo + i) (b := lg) (Nat.lt_of_lt_of_le hlg MB.out.size) (fun h => by have := HZ.out; have := MB.out.size; omega)
                exact h2.trans (h1.trans hcell)
              have HK0 := Lib.hid (GK.start HG.out hiv)
              rw [hve] at HK0
              have HVE := Lib.hid hve
              obtain ⟨wZ, hwZ⟩ : ∃ W, W = wr := ⟨_, rfl⟩
              subst hwZ
              have hZZ : Z ≤ wZ.heap.size := HG.out.size
              clear ed hi9 hve hlc hcell hq2 hlt
              go_upto_region 21 with fail
              clear f1
              go_loopw [11, 12] (fun gv kv wr2 => ∃ (k : Nat) (gad : Option Addr) (gn gc : Nat), k ≤ 70 ∧ Hid (gn = ln i + k) ∧ Hid (GK 27 28 1 lab 0 Z vs ln m1 m3 wZ i k (.slice vad (ln i) vcap) (.slice gad gn gc) wr2) ∧ gv = .slice gad gn gc ∧ kv = .int .i64 (k : Int)) (fun _ kv _ => 70 - (intOf kv).toNat)
              case atStart => exact ⟨0, vad, ln i, vcap, Nat.zero_le _, rfl, HK0, rfl, rfl⟩
              case round =>
                clear HK0
                obtain ⟨k, gad, gn, gc, hk, HGN, HK, rfl, rfl⟩ := hrel
                by_cases hkl : k < 70
                case pos =>
                  have ik : (k : Int) < 70 := by omega
                  obtain ⟨k9, hk9⟩ : ∃ k9 : Nat, k9 = k + 1 := ⟨_, rfl⟩
                  have kw1 : (k : Int) + 1 = (k9 : Int) := by omega
                  have kw2 : IntKind.i64.wrap (k9 : Int) = (k9 : Int) := IntWalk.i64_in _ (by omega)
                  have hk3 : k9 ≤ 70 := by omega
                  have hk4 : 70 - k9 < 70 - k := by omega
                  have HK9 := Lib.hid hk9
                  clear hk9
                  go_upto_region 23 with fail
                  with_reducible refine wp_region_list ?_
                  (with_reducible refine wpList_plain rfl ?_); intro K hK; go_simp; (with_reducible refine hK _ _ ?_); clear hK K; try simp only [Act.put, nA, nB, nC]
                  (with_reducible refine wpList_plain rfl ?_); intro K hK; go_simp; (with_reducible refine hK _ _ ?_); clear hK K; try simp only [Act.put, nA, nB, nC]
                  (with_reducible refine wpList_plain rfl ?_); intro K hK; go_simp; (with_reducible refine hK _ _ ?_); clear hK K; try simp only [Act.put, nA, nB, nC]
                  (with_reducible refine wpList_plain rfl ?_); intro K hK; go_simp; (with_reducible refine hK _ _ ?_); clear hK K; try simp only [Act.put, nA, nB, nC]
                  (with_reducible refine wpList_plain rfl ?_); intro K hK; go_simp; (with_reducible refine hK _ _ ?_); clear hK K; try simp only [Act.put, nA, nB, nC]
                  obtain ⟨wa, hwa⟩ : ∃ W, wr.alloc (.cells #[.int .u32 (m : Int)] 27) = W := ⟨_, rfl⟩
                  have ba : Below wr.heap.size wr wa := by rw [← hwa]; exact (Below.refl _ _).alloc (Nat.le_refl _) _
                  have ha : wa.heap[wr.heap.size]? = some (.cells #[.int .u32 (m : Int)] 27 (0, 0)) := by rw [← hwa]; exact heap_alloc_new wr _
                  obtain ⟨ti, hti, tz0, tz1, tz2⟩ := info_parts info_U
                  have hga := HK.out.g.below ba
                  have hsz := HSZ.out k hkl
                  rw [hwa]
                  refine wpList_appR 28 27 ti _ 1 4 Try.underlying28 hti tz0 tz1 tz2 rfl (by decide) wa rfl _ _ rfl 0 _ _ _ rfl hga _ rfl 1 (m3 i) (by rw [HE.out]; exact src_laid _ _ Try.underlying28 1 wa [.int .u32 (m : Int)] rfl (by simp [Value.oneCell']) _ wr.heap.size ha) hsz (Nat.zero_le _) ?_
                  intro v5 w5 o5 g5
                  have hK5 := GK.step hiv hvL.out hZZ (by rw [HVE.out]; exact HK.out) ba o5 g5
                  rw [HVE.out, ← HK9.out] at hK5
                  obtain ⟨gad5, gc5, hv5, hy5⟩ := o5.form
                  obtain ⟨gn5, hgn5⟩ : ∃ n, ln i + k + 1 = n := ⟨_, rfl⟩
                  rw [hgn5] at hv5
                  subst hv5
                  (try simp only [Act.put, nA, nB, nC])
                  (with_reducible refine wpList_plain rfl ?_); intro K hK; go_simp; (with_reducible refine hK _ _ ?_); clear hK K; try simp only [Act.put, nA, nB, nC]
                  have HK5 := Lib.hid hK5
                  have HG5 : Hid (gn5 = ln i + k9) := by show _ = _; rw [← hgn5, HK9.out]; rfl
                  clear hK5 o5 g5 hy5 hgn5 hga ha ba hwa hsz HK hti tz0 tz1 tz2
                  go_wp2_with fail
                  exact ⟨⟨k9, gad5, gn5, gc5, hk3, HG5, HK5, rfl, rfl⟩, by simp only [intOf, Int.toNat_natCast]; exact hk4⟩
                case neg =>
                  have ik : ¬ (k : Int) < 70 := by omega
                  obtain rfl : k = 70 := by omega
                  clear hkl hk
                  go_upto_region 24 with fail
                  clear ik
                  with_reducible refine wp_region_list ?_
                  (with_reducible refine wpList_plain rfl ?_); intro K hK; go_simp; (with_reducible refine hK _ _ ?_); clear hK K; try simp only [Act.put, nA, nB, nC]
                  (with_reducible refine wpList_plain rfl ?_); intro K hK; go_simp; (with_reducible refine hK _ _ ?_); clear hK K; try simp only [Act.put, nA, nB, nC]
                  (with_reducible refine wpList_plain rfl ?_); intro K hK; go_simp; (with_reducible refine hK _ _ ?_); clear hK K; try simp only [Act.put, nA, nB, nC]
                  obtain ⟨wa, hwa⟩ : ∃ W, wr.alloc (.cells #[.slice gad gn gc] 28) = W := ⟨_, rfl⟩
                  have ba : Below wr.heap.size wr wa := by rw [← hwa]; exact (Below.refl _ _).alloc (Nat.le_refl _) _
                  have ha : wa.heap[wr.heap.size]? = some (.cells #[.slice gad gn gc] 28 (0, 0)) := by rw [← hwa]; exact heap_alloc_new wr _
                  obtain ⟨ti, hti, tz0, tz1, tz2⟩ := info_parts info_V
                  have hra : OwnR 28 1 wa Z (.slice mad i mc) i gs := by
                    refine (HG.out.row.mod HK.out.m (fun q hq hs => ?_)).below ba
                    have := (HG.out.row.lt q hq).1
                    omega
                  have hsz : (i + 1) * 24 ≤ 140737488355328 := by have := hz3.out; omega
                  have hzw : Z ≤ wa.heap.size := by have := HK.out.m.size; have := ba.size; omega
                  rw [hwa]
                  refine wpList_appR 42 28 ti _ 1 24 Try.underlying42 hti tz0 tz1 tz2 rfl (by decide) wa rfl _ _ rfl Z _ _ _ rfl hra _ rfl 1 [.slice gad gn gc] (src_laid _ _ Try.underlying42 1 wa [.slice gad gn gc] rfl (by simp [Value.oneCell']) _ wr.heap.size ha) hsz hzw ?_
                  intro v5 w5 o5 g5
                  obtain ⟨hI5, mI5⟩ := GI.next hiv hvL.out HG.out (by rw [HVE.out]; exact HK.out) ba o5 g5
                  rw [← HI9.out] at hI5
                  obtain ⟨mad5, mc5, hv5, hy5⟩ := o5.form
                  rw [← HI9.out] at hv5
                  subst hv5
                  (try simp only [Act.put, nA, nB, nC])
                  (with_reducible refine wpList_plain rfl ?_); intro K hK; go_simp; (with_reducible refine hK _ _ ?_); clear hK K; try simp only [Act.put, nA, nB, nC]
                  have HG5 := Lib.hid hI5
                  have HM5 : Hid (Mod (fun g => (g < Z ∧ lab g ≠ 0 ∧ lab g ≤ n1) ∨ Z ≤ g) wB w5) := HM.out.trans mI5 (fun q _ h => by have := HN1.out; omega)
                  clear hI5 mI5 o5 g5 hy5 hra ha ba hwa hsz hzw HK HG HM HGN hti tz0 tz1 tz2
                  go_wp2_with fail
                  exact ⟨⟨i9, _, mad5, mc5, hi3, HG5, HM5, rfl, rfl⟩, by simp only [intOf, Int.toNat_natCast]; exact hi4⟩
            case neg =>
              have ii : ¬ (i : Int) < (n1 : Int) := by omega
              obtain rfl : n1 = i := by omega
              clear hlt hi
              obtain ⟨gs0, mad0, mc0, HNG⟩ : ∃ gs0 mad0 mc0, Hid (GI 27 28 1 lab 0 Z vs ln m1 m3 wr n1 gs0 (.slice mad0 n1 mc0)) ∧ gs0 = gs ∧ mad0 = mad ∧ mc0 = mc := ⟨gs, mad, mc, HG, rfl, rfl, rfl⟩
              obtain ⟨HNG, e1, e2, e3⟩ := HNG
              subst e1 e2 e3
              have DB2 : Hid (MarkD 64 2 us lb m2 wr) := DB.out.mod HM.out (fun j hj q hq hs => by have := huL.out j hj q hq; omega)
              have MC : Hid (Mod (fun g => g < Z ∧ lab g ≠ 0) w wr) := MB.out.trans HM.out (fun q hq h => by have := HZ.out; omega)
              clear HG HM DB MB DA2
              go_upto_region 27 with fail
              clear ii
              obtain ⟨wC, hwC⟩ : ∃ W, W = wr := ⟨_, rfl⟩
              subst hwC
              obtain ⟨Y, hY⟩ : ∃ Y, wC.heap.size = Y := ⟨_, rfl⟩
              have HY := Lib.hid hY
              have hZY : Z ≤ Y := by have := MC.out.size; have := HZ.out; omega
              have huY : Hid (Lab lab n1 Y us) := fun j hj q hq => by have := huL.out j hj q hq; exact ⟨by omega, this.2⟩
              clear hY
              go_loopw [13, 14] (fun mv iv wr => ∃ (i : Nat) (gs : List Value) (mad : Option Addr) (mc : Nat), i ≤ n2 ∧ Hid (GI 64 44 2 lab n1 Y us lb m2 m4 wr i gs (.slice mad i mc)) ∧ Hid (Mod (fun g => (g < Y ∧ lab g ≠ 0 ∧ n1 < lab g) ∨ Y ≤ g) wC wr) ∧ mv = .slice mad i mc ∧ iv = .int .i64 (i : Int)) (fun _ iv _ => n2 - (intOf iv).toNat)
              case atStart => exact ⟨0, [], none, 0, Nat.zero_le _, GI.start DB2.out (by have := MC.out.size; have := HY.out; omega), Mod.refl _ _, rfl, rfl⟩
              case round =>
                obtain ⟨i, gs, mad, mc, hi, HG, HM, rfl, rfl⟩ := hrel
                by_cases hlt : i < n2
                case pos =>
                  have ii : (i : Int) < (n2 : Int) := by omega
                  have hiv : i < us.length := by have := HN2.out; omega
                  obtain ⟨i9, hi9⟩ : ∃ k9 : Nat, k9 = i + 1 := ⟨_, rfl⟩
                  have ew1 : (i : Int) + 1 = (i9 : Int) := by omega
                  have ew2 : IntKind.i64.wrap (i9 : Int) = (i9 : Int) := IntWalk.i64_in _ (by omega)
                  have hi3 : i9 ≤ n2 := by omega
                  have hi4 : n2 - i9 < n2 - i := by omega
                  obtain ⟨y, m, ea, eb, ec, ed⟩ := mkn 400000 i 400000 rfl (by have := hz4.out; omega)
                  have HE : Hid (m4 i = [.int .u32 (m : Int), .slice none 0 0]) := by show _ = _; unfold m4 uN; rw [ed]
                  have HI9 := Lib.hid hi9
                  obtain ⟨vad, vcap, hve, hq2⟩ := (HG.out.own i hiv).form
                  have HSZ : Hid (∀ k, k < 70 → (lb i + k + 1) * 32 ≤ 140737488355328) := fun k hk => Nat.le_trans (Nat.mul_le_mul_right 32 (by omega)) (hz2.out i hlt)
                  obtain ⟨lg, lo, hla, hlg, hlc⟩ := hcl.out.at (by omega)
                  have hcell := hlc i (by omega)
                  rw [hve] at hcell
                  have hlab0 : lab lg = 0 := hc0.out lg (by rw [hla]; rfl)
                  subst hla
                  have f1 : wr.cell? ⟨lg, lo + i, none⟩ = some (.slice vad (lb i) vcap) := by
                    have h1 := MC.out.heapc (o := lo + i) (b := lg) hlg (fun h => h.2 hlab0)
                    have h2 := HM.out.heapc (o := lo + i) (b := lg) (Nat.lt_of_lt_of_le hlg MC.out.size) (fun h => by have := HY.out; have := MC.out.size; omega)
                    exact h2.trans (h1.trans hcell)
                  have HK0 := Lib.hid (GK.start HG.out hiv)
                  rw [hve] at HK0
                  have HVE := Lib.hid hve
                  obtain ⟨wZ, hwZ⟩ : ∃ W, W = wr := ⟨_, rfl⟩
                  subst hwZ
                  have hZZ : Y ≤ wZ.heap.size := HG.out.size
                  clear ed hi9 hve hlc hcell hq2 hlt
                  go_upto_region 31 with fail
                  clear f1
                  go_loopw [15, 16] (fun gv kv wr2 => ∃ (k : Nat) (gad : Option Addr) (gn gc : Nat), k ≤ 70 ∧ Hid (gn = lb i + k) ∧ Hid (GK 64 44 2 lab n1 Y us lb m2 m4 wZ i k (.slice vad (lb i) vcap) (.slice gad gn gc) wr2) ∧ gv = .slice gad gn gc ∧ kv = .int .i64 (k : Int)) (fun _ kv _ => 70 - (intOf kv).toNat)
                  case atStart => exact ⟨0, vad, lb i, vcap, Nat.zero_le _, rfl, HK0, rfl, rfl⟩
                  case round =>
                    clear HK0
                    obtain ⟨k, gad, gn, gc, hk, HGN, HK, rfl, rfl⟩ := hrel
                    by_cases hkl : k < 70
                    case pos =>
                      have ik : (k : Int) < 70 := by omega
                      obtain ⟨k9, hk9⟩ : ∃ k9 : Nat, k9 = k + 1 := ⟨_, rfl⟩
                      have kw1 : (k : Int) + 1 = (k9 : Int) := by omega
                      have kw2 : IntKind.i64.wrap (k9 : Int) = (k9 : Int) := IntWalk.i64_in _ (by omega)
                      have hk3 : k9 ≤ 70 := by omega
                      have hk4 : 70 - k9 < 70 - k := by omega
                      have HK9 := Lib.hid hk9
                      clear hk9
                      go_upto_region 33 with fail
                      with_reducible refine wp_region_list ?_
                      (with_reducible refine wpList_plain rfl ?_); intro K hK; go_simp; (with_reducible refine hK _ _ ?_); clear hK K; try simp only [Act.put, nA, nB, nC]
                      (with_reducible refine wpList_plain rfl ?_); intro K hK; go_simp; (with_reducible refine hK _ _ ?_); clear hK K; try simp only [Act.put, nA, nB, nC]
                      (with_reducible refine wpList_plain rfl ?_); intro K hK; go_simp; (with_reducible refine hK _ _ ?_); clear hK K; try simp only [Act.put, nA, nB, nC]
                      (with_reducible refine wpList_plain rfl ?_); intro K hK; go_simp; (with_reducible refine hK _ _ ?_); clear hK K; try simp only [Act.put, nA, nB, nC]
                      (with_reducible refine wpList_plain rfl ?_); intro K hK; go_simp; (with_reducible refine hK _ _ ?_); clear hK K; try simp only [Act.put, nA, nB, nC]
                      (with_reducible refine wpList_plain rfl ?_); intro K hK; go_simp; (with_reducible refine hK _ _ ?_); clear hK K; try simp only [Act.put, nA, nB, nC]
                      obtain ⟨wa, hwa⟩ : ∃ W, wr.alloc (.cells #[.int .u32 (m : Int), .slice none 0 0] 64) = W := ⟨_, rfl⟩
                      have ba : Below wr.heap.size wr wa := by rw [← hwa]; exact (Below.refl _ _).alloc (Nat.le_refl _) _
                      have ha : wa.heap[wr.heap.size]? = some (.cells #[.int .u32 (m : Int), .slice none 0 0] 64 (0, 0)) := by rw [← hwa]; exact heap_alloc_new wr _
                      obtain ⟨ti, hti, tz0, tz1, tz2⟩ := info_parts info_C
                      have hga := HK.out.g.below ba
                      have hsz := HSZ.out k hkl
                      rw [hwa]
                      refine wpList_appR 44 64 ti _ 2 32 Try.underlying44 hti tz0 tz1 tz2 rfl (by decide) wa rfl _ _ rfl 0 _ _ _ rfl hga _ rfl 1 (m4 i) (by rw [HE.out]; exact src_laid _ _ Try.underlying44 2 wa [.int .u32 (m : Int), .slice none 0 0] rfl (by simp [Value.oneCell']) _ wr.heap.size ha) hsz (Nat.zero_le _) ?_
                      intro v5 w5 o5 g5
                      have hK5 := GK.step hiv huY.out hZZ (by rw [HVE.out]; exact HK.out) ba o5 g5
                      rw [HVE.out, ← HK9.out] at hK5
                      obtain ⟨gad5, gc5, hv5, hy5⟩ := o5.form
                      obtain ⟨gn5, hgn5⟩ : ∃ n, lb i + k + 1 = n := ⟨_, rfl⟩
                      rw [hgn5] at hv5
                      subst hv5
                      (try simp only [Act.put, nA, nB, nC])
                      (with_reducible refine wpList_plain rfl ?_); intro K hK; go_simp; (with_reducible refine hK _ _ ?_); clear hK K; try simp only [Act.put, nA, nB, nC]
                      have HK5 := Lib.hid hK5
                      have HG5 : Hid (gn5 = lb i + k9) := by show _ = _; rw [← hgn5, HK9.out]; rfl
                      clear hK5 o5 g5 hy5 hgn5 hga ha ba hwa hsz HK hti tz0 tz1 tz2
                      go_wp2_with fail
                      exact ⟨⟨k9, gad5, gn5, gc5, hk3, HG5, HK5, rfl, rfl⟩, by simp only [intOf, Int.toNat_natCast]; exact hk4⟩
                    case neg =>
                      have ik : ¬ (k : Int) < 70 := by omega
                      obtain rfl : k = 70 := by omega
                      clear hkl hk
                      go_upto_region 34 with fail
                      clear ik
                      with_reducible refine wp_region_list ?_
                      (with_reducible refine wpList_plain rfl ?_); intro K hK; go_simp; (with_reducible refine hK _ _ ?_); clear hK K; try simp only [Act.put, nA, nB, nC]
                      (with_reducible refine wpList_plain rfl ?_); intro K hK; go_simp; (with_reducible refine hK _ _ ?_); clear hK K; try simp only [Act.put, nA, nB, nC]
                      (with_reducible refine wpList_plain rfl ?_); intro K hK; go_simp; (with_reducible refine hK _ _ ?_); clear hK K; try simp only [Act.put, nA, nB, nC]
                      obtain ⟨wa, hwa⟩ : ∃ W, wr.alloc (.cells #[.slice gad gn gc] 44) = W := ⟨_, rfl⟩
                      have ba : Below wr.heap.size wr wa := by rw [← hwa]; exact (Below.refl _ _).alloc (Nat.le_refl _) _
                      have ha : wa.heap[wr.heap.size]? = some (.cells #[.slice gad gn gc] 44 (0, 0)) := by rw [← hwa]; exact heap_alloc_new wr _
                      obtain ⟨ti, hti, tz0, tz1, tz2⟩ := info_parts info_W
                      have hra : OwnR 44 1 wa Y (.slice mad i mc) i gs := by
                        refine (HG.out.row.mod HK.out.m (fun q hq hs => ?_)).below ba
                        have := (HG.out.row.lt q hq).1
                        omega
                      have hsz : (i + 1) * 24 ≤ 140737488355328 := by have := hz4.out; omega
                      have hzw : Y ≤ wa.heap.size := by have := HK.out.m.size; have := ba.size; omega
                      rw [hwa]
                      refine wpList_appR 57 44 ti _ 1 24 Try.underlying57 hti tz0 tz1 tz2 rfl (by decide) wa rfl _ _ rfl Y _ _ _ rfl hra _ rfl 1 [.slice gad gn gc] (src_laid _ _ Try.underlying57 1 wa [.slice gad gn gc] rfl (by simp [Value.oneCell']) _ wr.heap.size ha) hsz hzw ?_
                      intro v5 w5 o5 g5
                      obtain ⟨hI5, mI5⟩ := GI.next hiv huY.out HG.out (by rw [HVE.out]; exact HK.out) ba o5 g5
                      rw [← HI9.out] at hI5
                      obtain ⟨mad5, mc5, hv5, hy5⟩ := o5.form
                      rw [← HI9.out] at hv5
                      subst hv5
                      (try simp only [Act.put, nA, nB, nC])
                      (with_reducible refine wpList_plain rfl ?_); intro K hK; go_simp; (with_reducible refine hK _ _ ?_); clear hK K; try simp only [Act.put, nA, nB, nC]
                      have HG5 := Lib.hid hI5
                      have HM5 : Hid (Mod (fun g => (g < Y ∧ lab g ≠ 0 ∧ n1 < lab g) ∨ Y ≤ g) wC w5) := HM.out.trans mI5 (fun q _ h => by have := HN2.out; omega)
                      clear hI5 mI5 o5 g5 hy5 hra ha ba hwa hsz hzw HK HG HM HGN hti tz0 tz1 tz2
                      go_wp2_with fail
                      exact ⟨⟨i9, _, mad5, mc5, hi3, HG5, HM5, rfl, rfl⟩, by simp only [intOf, Int.toNat_natCast]; exact hi4⟩
                case neg =>
                  have ii : ¬ (i : Int) < (n2 : Int) := by omega
                  obtain rfl : n2 = i := by omega
                  clear hlt hi
                  have HNG2 : Hid (GI 27 28 1 lab 0 Z vs ln m1 m3 wr n1 gs0 (.slice mad0 n1 mc0)) := HNG.out.mod hvL.out HM.out (fun q hq hs => by
                    have h1 : lab q ≠ 0 ∧ n1 < lab q := by have := HY.out; omega
                    refine ⟨Nat.lt_of_not_le (fun h => h1.1 (hlz.out q (by have := HZ.out; omega))), fun j hj e => by have := HN1.out; omega⟩) (by have := HN1.out; omega)
                  have MD : Hid (Mod (fun g => g < Z ∧ lab g ≠ 0) w wr) := MC.out.trans HM.out (fun q hq h => by
                    have h1 := HZ.out
                    have h2 : lab q ≠ 0 := by omega
                    exact ⟨by omega, h2⟩)
                  have HBG := Lib.hid HG.out
                  clear HM HG DB2 MC HNG huY HY
                  go_upto_region 36 with fail
                  clear ii
                  obtain ⟨wD, hwD⟩ : ∃ W, W = wr := ⟨_, rfl⟩
                  subst hwD
                  go_loopw [17] (fun iv wr => ∃ (i : Nat), i ≤ n1 ∧ wr = wD ∧ iv = .int .i64 (i : Int)) (fun iv _ => n1 - (intOf iv).toNat)
                  case atStart => exact ⟨0, Nat.zero_le _, rfl, rfl⟩
                  case round =>
                    obtain ⟨i, hi, hwr, rfl⟩ := hrel
                    subst hwr
                    by_cases hlt : i < n1
                    case pos =>
                      have ii : (i : Int) < (n1 : Int) := by omega
                      have hiv : i < vs.length := by have := HN1.out; omega
                      have hig : i < gs0.length := by have := HNG2.out.len; omega
                      obtain ⟨i9, hi9⟩ : ∃ k9 : Nat, k9 = i + 1 := ⟨_, rfl⟩
                      have ew1 : (i : Int) + 1 = (i9 : Int) := by omega
                      have ew2 : IntKind.i64.wrap (i9 : Int) = (i9 : Int) := IntWalk.i64_in _ (by omega)
                      have hi3 : i9 ≤ n1 := by omega
                      have hi4 : n1 - i9 < n1 - i := by omega
                      obtain ⟨y, m, ea, eb, ec, ed⟩ := mkn 100000 i 100000 rfl (by have := hz3.out; omega)
                      obtain ⟨y2, n, ea2, eb2, ec2, ed2⟩ := mkn 300000 i 300000 rfl (by have := hz3.out; omega)
                      have HE : Hid (m1 i = [Value.int .u32 (m : Int)]) := by show _ = _; unfold m1 uN; rw [ed]
                      have HE2 : Hid (m3 i = [Value.int .u32 (n : Int)]) := by show _ = _; unfold m3 uN; rw [ed2]
                      have hvo := HNG2.out.own i hiv
                      obtain ⟨hgo, _⟩ := HNG2.out.gr i hig
                      obtain ⟨vad, vcap, hve, hq2⟩ := hvo.form
                      obtain ⟨gad, gcap, hge, hq3⟩ := hgo.form
                      rw [hve] at hvo
                      rw [hge] at hgo
                      rw [HE.out] at hvo
                      rw [HE.out, HE2.out] at hgo
                      have HVO := Lib.hid hvo
                      have HGO := Lib.hid hgo
                      obtain ⟨lg, lo, hla, hlg, hlc⟩ := hvl.out.at (by omega)
                      have hcell := hlc i (by omega)
                      rw [hve] at hcell
                      have hlab0 : lab lg = 0 := hl0.out lg (by rw [hla]; rfl)
                      subst hla
                      have f1 : wr.cell? ⟨lg, lo + i, none⟩ = some (.slice vad (ln i) vcap) := (MD.out.heapc (o := lo + i) (b := lg) hlg (fun h => h.2 hlab0)).trans hcell
                      obtain ⟨mg, mo, hma, hmg, hmc⟩ := HNG2.out.row.read.at (by omega)
                      have f2 := hmc i hig
                      obtain ⟨gN, hgN⟩ : ∃ n, ln i + 70 = n := ⟨_, rfl⟩
                      rw [hge, hgN] at f2
                      subst hma
                      have HGN := Lib.hid hgN
                      have hbN : gN ≤ 9223372036854775807 := by rw [← hgN]; omega
                      rw [hgN] at HGO
                      clear ed ed2 hi9 hve hge hlc hmc hcell hq2 hq3 hlt hvo hgo hgN
                      obtain ⟨wE, hwE⟩ : ∃ W, W = wr := ⟨_, rfl⟩
                      subst hwE
                      go_upto_region 39 with fail
                      go_loopw [18] (fun kv wr2 => ∃ (k : Nat), k ≤ gN ∧ wr2 = wE ∧ kv = .int .i64 (k : Int)) (fun kv _ => gN - (intOf kv).toNat)
                      case atStart => exact ⟨0, Nat.zero_le _, rfl, rfl⟩
                      case round =>
                        obtain ⟨k, hk, hwr2, rfl⟩ := hrel
                        subst hwr2
                        by_cases hkl : k < gN
                        case pos =>
                          have ik : (k : Int) < (gN : Int) := by omega
                          obtain ⟨k9, hk9⟩ : ∃ k9 : Nat, k9 = k + 1 := ⟨_, rfl⟩
                          have kw1 : (k : Int) + 1 = (k9 : Int) := by omega
                          have kw2 : IntKind.i64.wrap (k9 : Int) = (k9 : Int) := IntWalk.i64_in _ (by omega)
                          have hk3 : k9 ≤ gN := by omega
                          have hk4 : gN - k9 < gN - k := by omega
                          obtain ⟨gg, go, hga, hgg, hgc⟩ := HGO.out.read.at (by omega)
                          subst hga
                          by_cases hkv : k < ln i
                          case pos =>
                            have iv : (k : Int) < (ln i : Int) := by omega
                            have y1 : decide (ln i ≤ k) = false := decide_eq_false (by omega)
                            have y1' : decide ((ln i : Int) ≤ (k : Int)) = false := decide_eq_false (by omega)
                            obtain ⟨vg, vo, hva, hvg, hvc⟩ := HVO.out.read.at (by omega)
                            subst hva
                            obtain ⟨r1, r2⟩ := repl_at (u := [Value.int .u32 (m : Int)]) (j := 0) hkv (Nat.succ_pos _)
                            have g1 := hvc _ r1
                            rw [r2] at g1
                            have g2 := hgc (k * [Value.int .u32 (m : Int)].length + 0) (by rw [List.length_append]; omega)
                            rw [List.getElem_append_left r1, r2] at g2
                            have g1 : wr.cell? ⟨vg, vo + k, none⟩ = some (.int .u32 (m : Int)) := by simpa using g1
                            have g2 : wr.cell? ⟨gg, go + k, none⟩ = some (.int .u32 (m : Int)) := by simpa using g2
                            clear hkl hk9 hkv hvc hgc r1 r2 hk
                            go_upto_region 41 with fail
                            with_reducible refine wp_region_list ?_
                            (with_reducible refine wpList_plain rfl ?_); intro K hK; go_simp; (with_reducible refine hK _ _ ?_); clear hK K; try simp only [Act.put, nA, nB, nC]
                            (with_reducible refine wpList_plain rfl ?_); intro K hK; go_simp; (with_reducible refine hK _ _ ?_); clear hK K; try simp only [Act.put, nA, nB, nC]
                            (with_reducible refine wpList_plain rfl ?_); intro K hK; go_simp; (with_reducible refine hK _ _ ?_); clear hK K; try simp only [Act.put, nA, nB, nC]
                            (with_reducible refine wpList_plain rfl ?_); intro K hK; go_simp; (with_reducible refine hK _ _ ?_); clear hK K; try simp only [Act.put, nA, nB, nC]
                            (with_reducible refine wpList_plain rfl ?_); intro K hK; go_simp; (with_reducible refine hK _ _ ?_); clear hK K; try simp only [Act.put, nA, nB, nC]
                            (with_reducible refine wpList_plain rfl ?_); intro K hK; go_simp; (with_reducible refine hK _ _ ?_); clear hK K; try simp only [Act.put, nA, nB, nC]
                            (with_reducible refine wpList_plain rfl ?_); intro K hK; go_simp; (with_reducible refine hK _ _ ?_); clear hK K; try simp only [Act.put, nA, nB, nC]
                            (with_reducible refine wpList_plain rfl ?_); intro K hK; go_simp; (with_reducible refine hK _ _ ?_); clear hK K; try simp only [Act.put, nA, nB, nC]
                            (with_reducible refine wpList_step ?_); intro K hK; rw [if_pos (by rfl)]; go_simp; (with_reducible refine hK _ _ ?_); clear hK K; try simp only [Act.put, nA, nB, nC]
                            (with_reducible refine wpList_step ?_); intro K hK; rw [if_pos (by rfl)]; go_simp; (with_reducible refine hK _ _ ?_); clear hK K; try simp only [Act.put, nA, nB, nC]
                            (with_reducible refine wpList_step ?_); intro K hK; rw [if_pos (by rfl)]; go_simp; (with_reducible refine hK _ _ ?_); clear hK K; try simp only [Act.put, nA, nB, nC]
                            (with_reducible refine wpList_step ?_); intro K hK; rw [if_pos (by rfl)]; go_simp; (with_reducible refine hK _ _ ?_); clear hK K; try simp only [Act.put, nA, nB, nC]
                            (with_reducible refine wpList_step ?_); intro K hK; rw [if_pos (by rfl)]; go_simp; (with_reducible refine hK _ _ ?_); clear hK K; try simp only [Act.put, nA, nB, nC]
                            (with_reducible refine wpList_step ?_); intro K hK; rw [if_pos (by rfl)]; go_simp; (with_reducible refine hK _ _ ?_); clear hK K; try simp only [Act.put, nA, nB, nC]
                            (with_reducible refine wpList_step ?_); intro K hK; rw [if_pos (by rfl)]; go_simp; (with_reducible refine hK _ _ ?_); clear hK K; try simp only [Act.put, nA, nB, nC]
                            (with_reducible refine wpList_step ?_); intro K hK; rw [if_pos (by rfl)]; go_simp; (with_reducible refine hK _ _ ?_); clear hK K; try simp only [Act.put, nA, nB, nC]
                            (with_reducible refine wpList_step ?_); intro K hK; rw [if_pos (by rfl)]; go_simp; (with_reducible refine hK _ _ ?_); clear hK K; try simp only [Act.put, nA, nB, nC]
                            (with_reducible refine wpList_step ?_); intro K hK; rw [if_pos (by rfl)]; go_simp; (with_reducible refine hK _ _ ?_); clear hK K; try simp only [Act.put, nA, nB, nC]
                            (with_reducible refine wpList_step ?_); intro K hK; rw [if_pos (by rfl)]; go_simp; (with_reducible refine hK _ _ ?_); clear hK K; try simp only [Act.put, nA, nB, nC]
                            (with_reducible refine wpList_step ?_); intro K hK; rw [if_pos (by rfl)]; go_simp; (with_reducible refine hK _ _ ?_); clear hK K; try simp only [Act.put, nA, nB, nC]
                            (with_reducible refine wpList_step ?_); intro K hK; rw [if_pos (by rfl)]; go_simp; (with_reducible refine hK _ _ ?_); clear hK K; try simp only [Act.put, nA, nB, nC]
                            (with_reducible refine wpList_step ?_); intro K hK; rw [if_pos (by rfl)]; go_simp; (with_reducible refine hK _ _ ?_); clear hK K; try simp only [Act.put, nA, nB, nC]
                            (with_reducible refine wpList_step ?_); intro K hK; rw [if_pos (by rfl)]; go_simp; (with_reducible refine hK _ _ ?_); clear hK K; try simp only [Act.put, nA, nB, nC]
                            (with_reducible refine wpList_step ?_); intro K hK; rw [if_pos (by rfl)]; go_simp; (with_reducible refine hK _ _ ?_); clear hK K; try simp only [Act.put, nA, nB, nC]
                            (with_reducible refine wpList_step ?_); intro K hK; rw [if_pos (by rfl)]; go_simp; (with_reducible refine hK _ _ ?_); clear hK K; try simp only [Act.put, nA, nB, nC]
                            (with_reducible refine wpList_step ?_); intro K hK; rw [if_pos (by rfl)]; go_simp; (with_reducible refine hK _ _ ?_); clear hK K; try simp only [Act.put, nA, nB, nC]
                            (with_reducible refine wpList_step ?_); intro K hK; rw [if_pos (by rfl)]; go_simp; (with_reducible refine hK _ _ ?_); clear hK K; try simp only [Act.put, nA, nB, nC]
                            (with_reducible refine wpList_step ?_); intro K hK; rw [if_pos (by rfl)]; go_simp; (with_reducible refine hK _ _ ?_); clear hK K; try simp only [Act.put, nA, nB, nC]
                            (with_reducible refine wpList_step ?_); intro K hK; rw [if_pos (by rfl)]; go_simp; (with_reducible refine hK _ _ ?_); clear hK K; try simp only [Act.put, nA, nB, nC]
                            (with_reducible refine wpList_step ?_); intro K hK; rw [if_pos (by rfl)]; go_simp; (with_reducible refine hK _ _ ?_); clear hK K; try simp only [Act.put, nA, nB, nC]
                            (with_reducible refine wpList_step ?_); intro K hK; rw [if_pos (by rfl)]; go_simp; (with_reducible refine hK _ _ ?_); clear hK K; try simp only [Act.put, nA, nB, nC]
                            (with_reducible refine wpList_step ?_); intro K hK; rw [if_pos (by rfl)]; go_simp; (with_reducible refine hK _ _ ?_); clear hK K; try simp only [Act.put, nA, nB, nC]
                            (with_reducible refine wpList_plain rfl ?_); intro K hK; go_simp; (with_reducible refine hK _ _ ?_); clear hK K; try simp only [Act.put, nA, nB, nC]
                            (with_reducible refine wpList_plain rfl ?_); intro K hK; go_simp; (with_reducible refine hK _ _ ?_); clear hK K; try simp only [Act.put, nA, nB, nC]
                            (with_reducible refine wpList_step ?_); intro K hK; rw [if_pos (by rfl)]; go_simp; (with_reducible refine hK _ _ ?_); clear hK K; try simp only [Act.put, nA, nB, nC]
                            (with_reducible refine wpList_step ?_); intro K hK; rw [if_pos (by rfl)]; go_simp; (with_reducible refine hK _ _ ?_); clear hK K; try simp only [Act.put, nA, nB, nC]
                            (with_reducible refine wpList_step ?_); intro K hK; rw [if_pos (by rfl)]; go_simp; (with_reducible refine hK _ _ ?_); clear hK K; try simp only [Act.put, nA, nB, nC]
                            (with_reducible refine wpList_step ?_); intro K hK; rw [if_pos (by rfl)]; go_simp; (with_reducible refine hK _ _ ?_); clear hK K; try simp only [Act.put, nA, nB, nC]
                            (with_reducible refine wpList_step ?_); intro K hK; rw [if_pos (by rfl)]; go_simp; (with_reducible refine hK _ _ ?_); clear hK K; try simp only [Act.put, nA, nB, nC]
                            (with_reducible refine wpList_step ?_); intro K hK; rw [if_pos (by rfl)]; go_simp; (with_reducible refine hK _ _ ?_); clear hK K; try simp only [Act.put, nA, nB, nC]
                            (with_reducible refine wpList_step ?_); intro K hK; rw [if_pos (by rfl)]; go_simp; (with_reducible refine hK _ _ ?_); clear hK K; try simp only [Act.put, nA, nB, nC]
                            (with_reducible refine wpList_step ?_); intro K hK; rw [if_pos (by rfl)]; go_simp; (with_reducible refine hK _ _ ?_); clear hK K; try simp only [Act.put, nA, nB, nC]
                            (with_reducible refine wpList_step ?_); intro K hK; rw [if_neg (Bool.eq_false_iff.1 (by rfl))]; (with_reducible refine hK _ _ ?_); clear hK K; try simp only [Act.put, nA, nB, nC]
                            (with_reducible refine wpList_step ?_); intro K hK; rw [if_neg (Bool.eq_false_iff.1 (by rfl))]; (with_reducible refine hK _ _ ?_); clear hK K; try simp only [Act.put, nA, nB, nC]
                            (with_reducible refine wpList_step ?_); intro K hK; rw [if_neg (Bool.eq_false_iff.1 (by rfl))]; (with_reducible refine hK _ _ ?_); clear hK K; try simp only [Act.put, nA, nB, nC]
                            (with_reducible refine wpList_step ?_); intro K hK; rw [if_neg (Bool.eq_false_iff.1 (by rfl))]; (with_reducible refine hK _ _ ?_); clear hK K; try simp only [Act.put, nA, nB, nC]
                            (with_reducible refine wpList_step ?_); intro K hK; rw [if_neg (Bool.eq_false_iff.1 (by rfl))]; (with_reducible refine hK _ _ ?_); clear hK K; try simp only [Act.put, nA, nB, nC]
                            (with_reducible refine wpList_step ?_); intro K hK; rw [if_neg (Bool.eq_false_iff.1 (by rfl))]; (with_reducible refine hK _ _ ?_); clear hK K; try simp only [Act.put, nA, nB, nC]
                            (with_reducible refine wpList_step ?_); intro K hK; rw [if_neg (Bool.eq_false_iff.1 (by rfl))]; (with_reducible refine hK _ _ ?_); clear hK K; try simp only [Act.put, nA, nB, nC]
                            (with_reducible refine wpList_step ?_); intro K hK; rw [if_neg (Bool.eq_false_iff.1 (by rfl))]; (with_reducible refine hK _ _ ?_); clear hK K; try simp only [Act.put, nA, nB, nC]
                            (with_reducible refine wpList_step ?_); intro K hK; rw [if_neg (Bool.eq_false_iff.1 (by rfl))]; (with_reducible refine hK _ _ ?_); clear hK K; try simp only [Act.put, nA, nB, nC]
                            (with_reducible refine wpList_step ?_); intro K hK; rw [if_neg (Bool.eq_false_iff.1 (by rfl))]; (with_reducible refine hK _ _ ?_); clear hK K; try simp only [Act.put, nA, nB, nC]
                            (with_reducible refine wpList_step ?_); intro K hK; rw [if_neg (Bool.eq_false_iff.1 (by rfl))]; (with_reducible refine hK _ _ ?_); clear hK K; try simp only [Act.put, nA, nB, nC]
                            (with_reducible refine wpList_step ?_); intro K hK; rw [if_pos (by rfl)]; go_simp; (with_reducible refine hK _ _ ?_); clear hK K; try simp only [Act.put, nA, nB, nC]
                            (with_reducible refine wpList_plain rfl ?_); intro K hK; go_simp; (with_reducible refine hK _ _ ?_); clear hK K; try simp only [Act.put, nA, nB, nC]
                            clear iv y1 y1' g1 g2
                            go_wp2_with fail
                            exact ⟨⟨k9, hk3, (by first | rfl | trivial), rfl⟩, by simp only [intOf, Int.toNat_natCast]; exact hk4⟩
                          case neg =>
                            have iv : ¬ (k : Int) < (ln i : Int) := by omega
                            have y1 : decide (ln i ≤ k) = true := decide_eq_true (by omega)
                            have y1' : decide ((ln i : Int) ≤ (k : Int)) = true := decide_eq_true (by omega)
                            have hk70 : k - ln i < 70 := by have := HGN.out; omega
                            obtain ⟨r1, r2⟩ := repl_at (u := [Value.int .u32 (n : Int)]) (j := 0) hk70 (Nat.succ_pos _)
                            have e0 : (repl (ln i) [Value.int .u32 (m : Int)]).length = ln i * 1 := by rw [repl_len]; rfl
                            have e1 : [Value.int .u32 (n : Int)].length = 1 := rfl
                            have g2 := hgc (k) (by rw [List.length_append, e0]; rw [e1] at r1; omega)
                            rw [List.getElem_append_right (by rw [e0]; omega)] at g2
                            have e2 : k - (repl (ln i) [Value.int .u32 (m : Int)]).length = (k - ln i) * [Value.int .u32 (n : Int)].length + 0 := by rw [e0, e1]; omega
                            simp only [e2, r2] at g2
                            have g2 : wr.cell? ⟨gg, go + k, none⟩ = some (.int .u32 (n : Int)) := g2
                            clear hkl hk9 hkv hgc r1 r2 hk e0 e1 e2 hk70
                            go_upto_region 41 with fail
                            with_reducible refine wp_region_list ?_
                            (with_reducible refine wpList_plain rfl ?_); intro K hK; go_simp; (with_reducible refine hK _ _ ?_); clear hK K; try simp only [Act.put, nA, nB, nC]
                            (with_reducible refine wpList_plain rfl ?_); intro K hK; go_simp; (with_reducible refine hK _ _ ?_); clear hK K; try simp only [Act.put, nA, nB, nC]
                            (with_reducible refine wpList_plain rfl ?_); intro K hK; go_simp; (with_reducible refine hK _ _ ?_); clear hK K; try simp only [Act.put, nA, nB, nC]
                            (with_reducible refine wpList_plain rfl ?_); intro K hK; go_simp; (with_reducible refine hK _ _ ?_); clear hK K; try simp only [Act.put, nA, nB, nC]
                            (with_reducible refine wpList_plain rfl ?_); intro K hK; go_simp; (with_reducible refine hK _ _ ?_); clear hK K; try simp only [Act.put, nA, nB, nC]
                            (with_reducible refine wpList_plain rfl ?_); intro K hK; go_simp; (with_reducible refine hK _ _ ?_); clear hK K; try simp only [Act.put, nA, nB, nC]
                            (with_reducible refine wpList_plain rfl ?_); intro K hK; go_simp; (with_reducible refine hK _ _ ?_); clear hK K; try simp only [Act.put, nA, nB, nC]
                            (with_reducible refine wpList_plain rfl ?_); intro K hK; go_simp; (with_reducible refine hK _ _ ?_); clear hK K; try simp only [Act.put, nA, nB, nC]
                            (with_reducible refine wpList_step ?_); intro K hK; rw [if_neg (Bool.eq_false_iff.1 (by rfl))]; (with_reducible refine hK _ _ ?_); clear hK K; try simp only [Act.put, nA, nB, nC]
                            (with_reducible refine wpList_step ?_); intro K hK; rw [if_neg (Bool.eq_false_iff.1 (by rfl))]; (with_reducible refine hK _ _ ?_); clear hK K; try simp only [Act.put, nA, nB, nC]
                            (with_reducible refine wpList_step ?_); intro K hK; rw [if_neg (Bool.eq_false_iff.1 (by rfl))]; (with_reducible refine hK _ _ ?_); clear hK K; try simp only [Act.put, nA, nB, nC]
                            (with_reducible refine wpList_step ?_); intro K hK; rw [if_neg (Bool.eq_false_iff.1 (by rfl))]; (with_reducible refine hK _ _ ?_); clear hK K; try simp only [Act.put, nA, nB, nC]
                            (with_reducible refine wpList_step ?_); intro K hK; rw [if_neg (Bool.eq_false_iff.1 (by rfl))]; (with_reducible refine hK _ _ ?_); clear hK K; try simp only [Act.put, nA, nB, nC]
                            (with_reducible refine wpList_step ?_); intro K hK; rw [if_neg (Bool.eq_false_iff.1 (by rfl))]; (with_reducible refine hK _ _ ?_); clear hK K; try simp only [Act.put, nA, nB, nC]
                            (with_reducible refine wpList_step ?_); intro K hK; rw [if_neg (Bool.eq_false_iff.1 (by rfl))]; (with_reducible refine hK _ _ ?_); clear hK K; try simp only [Act.put, nA, nB, nC]
                            (with_reducible refine wpList_step ?_); intro K hK; rw [if_neg (Bool.eq_false_iff.1 (by rfl))]; (with_reducible refine hK _ _ ?_); clear hK K; try simp only [Act.put, nA, nB, nC]
                            (with_reducible refine wpList_step ?_); intro K hK; rw [if_neg (Bool.eq_false_iff.1 (by rfl))]; (with_reducible refine hK _ _ ?_); clear hK K; try simp only [Act.put, nA, nB, nC]
                            (with_reducible refine wpList_step ?_); intro K hK; rw [if_neg (Bool.eq_false_iff.1 (by rfl))]; (with_reducible refine hK _ _ ?_); clear hK K; try simp only [Act.put, nA, nB, nC]
                            (with_reducible refine wpList_step ?_); intro K hK; rw [if_neg (Bool.eq_false_iff.1 (by rfl))]; (with_reducible refine hK _ _ ?_); clear hK K; try simp only [Act.put, nA, nB, nC]
                            (with_reducible refine wpList_step ?_); intro K hK; rw [if_neg (Bool.eq_false_iff.1 (by rfl))]; (with_reducible refine hK _ _ ?_); clear hK K; try simp only [Act.put, nA, nB, nC]
                            (with_reducible refine wpList_step ?_); intro K hK; rw [if_neg (Bool.eq_false_iff.1 (by rfl))]; (with_reducible refine hK _ _ ?_); clear hK K; try simp only [Act.put, nA, nB, nC]
                            (with_reducible refine wpList_step ?_); intro K hK; rw [if_neg (Bool.eq_false_iff.1 (by rfl))]; (with_reducible refine hK _ _ ?_); clear hK K; try simp only [Act.put, nA, nB, nC]
                            (with_reducible refine wpList_step ?_); intro K hK; rw [if_neg (Bool.eq_false_iff.1 (by rfl))]; (with_reducible refine hK _ _ ?_); clear hK K; try simp only [Act.put, nA, nB, nC]
                            (with_reducible refine wpList_step ?_); intro K hK; rw [if_neg (Bool.eq_false_iff.1 (by rfl))]; (with_reducible refine hK _ _ ?_); clear hK K; try simp only [Act.put, nA, nB, nC]
                            (with_reducible refine wpList_step ?_); intro K hK; rw [if_neg (Bool.eq_false_iff.1 (by rfl))]; (with_reducible refine hK _ _ ?_); clear hK K; try simp only [Act.put, nA, nB, nC]
                            (with_reducible refine wpList_step ?_); intro K hK; rw [if_neg (Bool.eq_false_iff.1 (by rfl))]; (with_reducible refine hK _ _ ?_); clear hK K; try simp only [Act.put, nA, nB, nC]
                            (with_reducible refine wpList_step ?_); intro K hK; rw [if_neg (Bool.eq_false_iff.1 (by rfl))]; (with_reducible refine hK _ _ ?_); clear hK K; try simp only [Act.put, nA, nB, nC]
                            (with_reducible refine wpList_step ?_); intro K hK; rw [if_neg (Bool.eq_false_iff.1 (by rfl))]; (with_reducible refine hK _ _ ?_); clear hK K; try simp only [Act.put, nA, nB, nC]
                            (with_reducible refine wpList_step ?_); intro K hK; rw [if_neg (Bool.eq_false_iff.1 (by rfl))]; (with_reducible refine hK _ _ ?_); clear hK K; try simp only [Act.put, nA, nB, nC]
                            (with_reducible refine wpList_step ?_); intro K hK; rw [if_neg (Bool.eq_false_iff.1 (by rfl))]; (with_reducible refine hK _ _ ?_); clear hK K; try simp only [Act.put, nA, nB, nC]
                            (with_reducible refine wpList_step ?_); intro K hK; rw [if_neg (Bool.eq_false_iff.1 (by rfl))]; (with_reducible refine hK _ _ ?_); clear hK K; try simp only [Act.put, nA, nB, nC]
                            (with_reducible refine wpList_step ?_); intro K hK; rw [if_neg (Bool.eq_false_iff.1 (by rfl))]; (with_reducible refine hK _ _ ?_); clear hK K; try simp only [Act.put, nA, nB, nC]
                            (with_reducible refine wpList_plain rfl ?_); intro K hK; go_simp; (with_reducible refine hK _ _ ?_); clear hK K; try simp only [Act.put, nA, nB, nC]
                            (with_reducible refine wpList_plain rfl ?_); intro K hK; go_simp; (with_reducible refine hK _ _ ?_); clear hK K; try simp only [Act.put, nA, nB, nC]
                            (with_reducible refine wpList_step ?_); intro K hK; rw [if_pos (by rfl)]; go_simp; (with_reducible refine hK _ _ ?_); clear hK K; try simp only [Act.put, nA, nB, nC]
                            (with_reducible refine wpList_step ?_); intro K hK; rw [if_pos (by rfl)]; go_simp; (with_reducible refine hK _ _ ?_); clear hK K; try simp only [Act.put, nA, nB, nC]
                            (with_reducible refine wpList_step ?_); intro K hK; rw [if_pos (by rfl)]; go_simp; (with_reducible refine hK _ _ ?_); clear hK K; try simp only [Act.put, nA, nB, nC]
                            (with_reducible refine wpList_step ?_); intro K hK; rw [if_pos (by rfl)]; go_simp; (with_reducible refine hK _ _ ?_); clear hK K; try simp only [Act.put, nA, nB, nC]
                            (with_reducible refine wpList_step ?_); intro K hK; rw [if_pos (by rfl)]; go_simp; (with_reducible refine hK _ _ ?_); clear hK K; try simp only [Act.put, nA, nB, nC]
                            (with_reducible refine wpList_step ?_); intro K hK; rw [if_pos (by rfl)]; go_simp; (with_reducible refine hK _ _ ?_); clear hK K; try simp only [Act.put, nA, nB, nC]
                            (with_reducible refine wpList_step ?_); intro K hK; rw [if_pos (by rfl)]; go_simp; (with_reducible refine hK _ _ ?_); clear hK K; try simp only [Act.put, nA, nB, nC]
                            (with_reducible refine wpList_step ?_); intro K hK; rw [if_pos (by rfl)]; go_simp; (with_reducible refine hK _ _ ?_); clear hK K; try simp only [Act.put, nA, nB, nC]
                            (with_reducible refine wpList_step ?_); intro K hK; rw [if_pos (by rfl)]; go_simp; (with_reducible refine hK _ _ ?_); clear hK K; try simp only [Act.put, nA, nB, nC]
                            (with_reducible refine wpList_step ?_); intro K hK; rw [if_pos (by rfl)]; go_simp; (with_reducible refine hK _ _ ?_); clear hK K; try simp only [Act.put, nA, nB, nC]
                            (with_reducible refine wpList_step ?_); intro K hK; rw [if_pos (by rfl)]; go_simp; (with_reducible refine hK _ _ ?_); clear hK K; try simp only [Act.put, nA, nB, nC]
                            (with_reducible refine wpList_step ?_); intro K hK; rw [if_pos (by rfl)]; go_simp; (with_reducible refine hK _ _ ?_); clear hK K; try simp only [Act.put, nA, nB, nC]
                            (with_reducible refine wpList_step ?_); intro K hK; rw [if_pos (by rfl)]; go_simp; (with_reducible refine hK _ _ ?_); clear hK K; try simp only [Act.put, nA, nB, nC]
                            (with_reducible refine wpList_step ?_); intro K hK; rw [if_pos (by rfl)]; go_simp; (with_reducible refine hK _ _ ?_); clear hK K; try simp only [Act.put, nA, nB, nC]
                            (with_reducible refine wpList_step ?_); intro K hK; rw [if_pos (by rfl)]; go_simp; (with_reducible refine hK _ _ ?_); clear hK K; try simp only [Act.put, nA, nB, nC]
                            (with_reducible refine wpList_step ?_); intro K hK; rw [if_pos (by rfl)]; go_simp; (with_reducible refine hK _ _ ?_); clear hK K; try simp only [Act.put, nA, nB, nC]
                            (with_reducible refine wpList_step ?_); intro K hK; rw [if_pos (by rfl)]; go_simp; (with_reducible refine hK _ _ ?_); clear hK K; try simp only [Act.put, nA, nB, nC]
                            (with_reducible refine wpList_step ?_); intro K hK; rw [if_pos (by rfl)]; go_simp; (with_reducible refine hK _ _ ?_); clear hK K; try simp only [Act.put, nA, nB, nC]
                            (with_reducible refine wpList_step ?_); intro K hK; rw [if_pos (by rfl)]; go_simp; (with_reducible refine hK _ _ ?_); clear hK K; try simp only [Act.put, nA, nB, nC]
                            (with_reducible refine wpList_step ?_); intro K hK; rw [if_pos (by rfl)]; go_simp; (with_reducible refine hK _ _ ?_); clear hK K; try simp only [Act.put, nA, nB, nC]
                            (with_reducible refine wpList_plain rfl ?_); intro K hK; go_simp; (with_reducible refine hK _ _ ?_); clear hK K; try simp only [Act.put, nA, nB, nC]
                            clear iv y1 y1' g2
                            go_wp2_with fail
                            exact ⟨⟨k9, hk3, (by first | rfl | trivial), rfl⟩, by simp only [intOf, Int.toNat_natCast]; exact hk4⟩
                        case neg =>
                          have ik : ¬ (k : Int) < (gN : Int) := by omega
                          clear hkl hk
                          go_wp2_with fail
                          exact ⟨⟨i9, hi3, (by first | rfl | trivial), rfl⟩, by simp only [intOf, Int.toNat_natCast]; exact hi4⟩
                    case neg =>
                      have ii : ¬ (i : Int) < (n1 : Int) := by omega
                      clear hlt hi
                      go_upto_region 44 with fail
                      clear ii
                      obtain ⟨wD, hwD⟩ : ∃ W, W = wr := ⟨_, rfl⟩
                      subst hwD
                      go_loopw [19] (fun iv wr => ∃ (i : Nat), i ≤ n2 ∧ wr = wD ∧ iv = .int .i64 (i : Int)) (fun iv _ => n2 - (intOf iv).toNat)
                      case atStart => exact ⟨0, Nat.zero_le _, rfl, rfl⟩
                      case round =>
                        obtain ⟨i, hi, hwr, rfl⟩ := hrel
                        subst hwr
                        by_cases hlt : i < n2
                        case pos =>
                          have ii : (i : Int) < (n2 : Int) := by omega
                          have hiv : i < us.length := by have := HN2.out; omega
                          have hig : i < gs.length := by have := HBG.out.len; omega
                          obtain ⟨i9, hi9⟩ : ∃ k9 : Nat, k9 = i + 1 := ⟨_, rfl⟩
                          have ew1 : (i : Int) + 1 = (i9 : Int) := by omega
                          have ew2 : IntKind.i64.wrap (i9 : Int) = (i9 : Int) := IntWalk.i64_in _ (by omega)
                          have hi3 : i9 ≤ n2 := by omega
                          have hi4 : n2 - i9 < n2 - i := by omega
                          obtain ⟨y, m, ea, eb, ec, ed⟩ := mkn 200000 i 200000 rfl (by have := hz4.out; omega)
                          obtain ⟨y2, n, ea2, eb2, ec2, ed2⟩ := mkn 400000 i 400000 rfl (by have := hz4.out; omega)
                          have HE : Hid (m2 i = [Value.int .u32 (m : Int), .slice none 0 0]) := by show _ = _; unfold m2 uN; rw [ed]
                          have HE2 : Hid (m4 i = [Value.int .u32 (n : Int), .slice none 0 0]) := by show _ = _; unfold m4 uN; rw [ed2]
                          have hvo := HBG.out.own i hiv
                          obtain ⟨hgo, _⟩ := HBG.out.gr i hig
                          obtain ⟨vad, vcap, hve, hq2⟩ := hvo.form
                          obtain ⟨gad, gcap, hge, hq3⟩ := hgo.form
                          rw [hve] at hvo
                          rw [hge] at hgo
                          rw [HE.out] at hvo
                          rw [HE.out, HE2.out] at hgo
                          have HVO := Lib.hid hvo
                          have HGO := Lib.hid hgo
                          obtain ⟨lg, lo, hla, hlg, hlc⟩ := hcl.out.at (by omega)
                          have hcell := hlc i (by omega)
                          rw [hve] at hcell
                          have hlab0 : lab lg = 0 := hc0.out lg (by rw [hla]; rfl)
                          subst hla
                          have f1 : wr.cell? ⟨lg, lo + i, none⟩ = some (.slice vad (lb i) vcap) := (MD.out.heapc (o := lo + i) (b := lg) hlg (fun h => h.2 hlab0)).trans hcell
                          obtain ⟨mg, mo, hma, hmg, hmc⟩ := HBG.out.row.read.at (by omega)
                          have f2 := hmc i hig
                          obtain ⟨gN, hgN⟩ : ∃ n, lb i + 70 = n := ⟨_, rfl⟩
                          rw [hge, hgN] at f2
                          subst hma
                          have HGN := Lib.hid hgN
                          have hbN : gN ≤ 9223372036854775807 := by rw [← hgN]; omega
                          rw [hgN] at HGO
                          clear ed ed2 hi9 hve hge hlc hmc hcell hq2 hq3 hlt hvo hgo hgN
                          obtain ⟨wE, hwE⟩ : ∃ W, W = wr := ⟨_, rfl⟩
                          subst hwE
                          go_upto_region 47 with fail
                          go_loopw [20] (fun kv wr2 => ∃ (k : Nat), k ≤ gN ∧ wr2 = wE ∧ kv = .int .i64 (k : Int)) (fun kv _ => gN - (intOf kv).toNat)
                          case atStart => exact ⟨0, Nat.zero_le _, rfl, rfl⟩
                          case round =>
                            obtain ⟨k, hk, hwr2, rfl⟩ := hrel
                            subst hwr2
                            by_cases hkl : k < gN
                            case pos =>
                              have ik : (k : Int) < (gN : Int) := by omega
                              obtain ⟨k9, hk9⟩ : ∃ k9 : Nat, k9 = k + 1 := ⟨_, rfl⟩
                              have kw1 : (k : Int) + 1 = (k9 : Int) := by omega
                              have kw2 : IntKind.i64.wrap (k9 : Int) = (k9 : Int) := IntWalk.i64_in _ (by omega)
                              have hk3 : k9 ≤ gN := by omega
                              have hk4 : gN - k9 < gN - k := by omega
                              obtain ⟨gg, go, hga, hgg, hgc⟩ := HGO.out.read.at (by omega)
                              subst hga
                              by_cases hkv : k < lb i
                              case pos =>
                                have iv : (k : Int) < (lb i : Int) := by omega
                                have y1 : decide (lb i ≤ k) = false := decide_eq_false (by omega)
                                have y1' : decide ((lb i : Int) ≤ (k : Int)) = false := decide_eq_false (by omega)
                                obtain ⟨vg, vo, hva, hvg, hvc⟩ := HVO.out.read.at (by omega)
                                subst hva
                                obtain ⟨r1, r2⟩ := repl_at (u := [Value.int .u32 (m : Int), .slice none 0 0]) (j := 0) hkv (Nat.succ_pos _)
                                have g1 := hvc _ r1
                                rw [r2] at g1
                                have g2 := hgc (k * [Value.int .u32 (m : Int), .slice none 0 0].length + 0) (by rw [List.length_append]; omega)
                                rw [List.getElem_append_left r1, r2] at g2
                                have g1 : wr.cell? ⟨vg, vo + k * 2, none⟩ = some (.int .u32 (m : Int)) := by simpa using g1
                                have g2 : wr.cell? ⟨gg, go + k * 2, none⟩ = some (.int .u32 (m : Int)) := by simpa using g2
                                clear hkl hk9 hkv hvc hgc r1 r2 hk
                                go_upto_region 49 with fail
                                with_reducible refine wp_region_list ?_
                                (with_reducible refine wpList_plain rfl ?_); intro K hK; go_simp; (with_reducible refine hK _ _ ?_); clear hK K; try simp only [Act.put, nA, nB, nC]
                                (with_reducible refine wpList_plain rfl ?_); intro K hK; go_simp; (with_reducible refine hK _ _ ?_); clear hK K; try simp only [Act.put, nA, nB, nC]
                                (with_reducible refine wpList_plain rfl ?_); intro K hK; go_simp; (with_reducible refine hK _ _ ?_); clear hK K; try simp only [Act.put, nA, nB, nC]
                                (with_reducible refine wpList_plain rfl ?_); intro K hK; go_simp; (with_reducible refine hK _ _ ?_); clear hK K; try simp only [Act.put, nA, nB, nC]
                                (with_reducible refine wpList_plain rfl ?_); intro K hK; go_simp; (with_reducible refine hK _ _ ?_); clear hK K; try simp only [Act.put, nA, nB, nC]
                                (with_reducible refine wpList_plain rfl ?_); intro K hK; go_simp; (with_reducible refine hK _ _ ?_); clear hK K; try simp only [Act.put, nA, nB, nC]
                                (with_reducible refine wpList_plain rfl ?_); intro K hK; go_simp; (with_reducible refine hK _ _ ?_); clear hK K; try simp only [Act.put, nA, nB, nC]
                                (with_reducible refine wpList_plain rfl ?_); intro K hK; go_simp; (with_reducible refine hK _ _ ?_); clear hK K; try simp only [Act.put, nA, nB, nC]
                                (with_reducible refine wpList_step ?_); intro K hK; rw [if_pos (by rfl)]; go_simp; (with_reducible refine hK _ _ ?_); clear hK K; try simp only [Act.put, nA, nB, nC]
                                (with_reducible refine wpList_step ?_); intro K hK; rw [if_pos (by rfl)]; go_simp; (with_reducible refine hK _ _ ?_); clear hK K; try simp only [Act.put, nA, nB, nC]
                                (with_reducible refine wpList_step ?_); intro K hK; rw [if_pos (by rfl)]; go_simp; (with_reducible refine hK _ _ ?_); clear hK K; try simp only [Act.put, nA, nB, nC]
                                (with_reducible refine wpList_step ?_); intro K hK; rw [if_pos (by rfl)]; go_simp; (with_reducible refine hK _ _ ?_); clear hK K; try simp only [Act.put, nA, nB, nC]
                                (with_reducible refine wpList_step ?_); intro K hK; rw [if_pos (by rfl)]; go_simp; (with_reducible refine hK _ _ ?_); clear hK K; try simp only [Act.put, nA, nB, nC]
                                (with_reducible refine wpList_step ?_); intro K hK; rw [if_pos (by rfl)]; go_simp; (with_reducible refine hK _ _ ?_); clear hK K; try simp only [Act.put, nA, nB, nC]
                                (with_reducible refine wpList_step ?_); intro K hK; rw [if_pos (by rfl)]; go_simp; (with_reducible refine hK _ _ ?_); clear hK K; try simp only [Act.put, nA, nB, nC]
                                (with_reducible refine wpList_step ?_); intro K hK; rw [if_pos (by rfl)]; go_simp; (with_reducible refine hK _ _ ?_); clear hK K; try simp only [Act.put, nA, nB, nC]
                                (with_reducible refine wpList_step ?_); intro K hK; rw [if_pos (by rfl)]; go_simp; (with_reducible refine hK _ _ ?_); clear hK K; try simp only [Act.put, nA, nB, nC]
                                (with_reducible refine wpList_step ?_); intro K hK; rw [if_pos (by rfl)]; go_simp; (with_reducible refine hK _ _ ?_); clear hK K; try simp only [Act.put, nA, nB, nC]
                                (with_reducible refine wpList_step ?_); intro K hK; rw [if_pos (by rfl)]; go_simp; (with_reducible refine hK _ _ ?_); clear hK K; try simp only [Act.put, nA, nB, nC]
                                (with_reducible refine wpList_step ?_); intro K hK; rw [if_pos (by rfl)]; go_simp; (with_reducible refine hK _ _ ?_); clear hK K; try simp only [Act.put, nA, nB, nC]
                                (with_reducible refine wpList_step ?_); intro K hK; rw [if_pos (by rfl)]; go_simp; (with_reducible refine hK _ _ ?_); clear hK K; try simp only [Act.put, nA, nB, nC]
                                (with_reducible refine wpList_step ?_); intro K hK; rw [if_pos (by rfl)]; go_simp; (with_reducible refine hK _ _ ?_); clear hK K; try simp only [Act.put, nA, nB, nC]
                                (with_reducible refine wpList_step ?_); intro K hK; rw [if_pos (by rfl)]; go_simp; (with_reducible refine hK _ _ ?_); clear hK K; try simp only [Act.put, nA, nB, nC]
                                (with_reducible refine wpList_step ?_); intro K hK; rw [if_pos (by rfl)]; go_simp; (with_reducible refine hK _ _ ?_); clear hK K; try simp only [Act.put, nA, nB, nC]
                                (with_reducible refine wpList_step ?_); intro K hK; rw [if_pos (by rfl)]; go_simp; (with_reducible refine hK _ _ ?_); clear hK K; try simp only [Act.put, nA, nB, nC]
                                (with_reducible refine wpList_step ?_); intro K hK; rw [if_pos (by rfl)]; go_simp; (with_reducible refine hK _ _ ?_); clear hK K; try simp only [Act.put, nA, nB, nC]
                                (with_reducible refine wpList_step ?_); intro K hK; rw [if_pos (by rfl)]; go_simp; (with_reducible refine hK _ _ ?_); clear hK K; try simp only [Act.put, nA, nB, nC]
                                (with_reducible refine wpList_step ?_); intro K hK; rw [if_pos (by rfl)]; go_simp; (with_reducible refine hK _ _ ?_); clear hK K; try simp only [Act.put, nA, nB, nC]
                                (with_reducible refine wpList_step ?_); intro K hK; rw [if_pos (by rfl)]; go_simp; (with_reducible refine hK _ _ ?_); clear hK K; try simp only [Act.put, nA, nB, nC]
                                (with_reducible refine wpList_step ?_); intro K hK; rw [if_pos (by rfl)]; go_simp; (with_reducible refine hK _ _ ?_); clear hK K; try simp only [Act.put, nA, nB, nC]
                                (with_reducible refine wpList_step ?_); intro K hK; rw [if_pos (by rfl)]; go_simp; (with_reducible refine hK _ _ ?_); clear hK K; try simp only [Act.put, nA, nB, nC]
                                (with_reducible refine wpList_step ?_); intro K hK; rw [if_pos (by rfl)]; go_simp; (with_reducible refine hK _ _ ?_); clear hK K; try simp only [Act.put, nA, nB, nC]
                                (with_reducible refine wpList_step ?_); intro K hK; rw [if_pos (by rfl)]; go_simp; (with_reducible refine hK _ _ ?_); clear hK K; try simp only [Act.put, nA, nB, nC]
                                (with_reducible refine wpList_step ?_); intro K hK; rw [if_pos (by rfl)]; go_simp; (with_reducible refine hK _ _ ?_); clear hK K; try simp only [Act.put, nA, nB, nC]
                                (with_reducible refine wpList_plain rfl ?_); intro K hK; go_simp; (with_reducible refine hK _ _ ?_); clear hK K; try simp only [Act.put, nA, nB, nC]
                                (with_reducible refine wpList_plain rfl ?_); intro K hK; go_simp; (with_reducible refine hK _ _ ?_); clear hK K; try simp only [Act.put, nA, nB, nC]
                                (with_reducible refine wpList_step ?_); intro K hK; rw [if_pos (by rfl)]; go_simp; (with_reducible refine hK _ _ ?_); clear hK K; try simp only [Act.put, nA, nB, nC]
                                (with_reducible refine wpList_step ?_); intro K hK; rw [if_pos (by rfl)]; go_simp; (with_reducible refine hK _ _ ?_); clear hK K; try simp only [Act.put, nA, nB, nC]
                                (with_reducible refine wpList_step ?_); intro K hK; rw [if_pos (by rfl)]; go_simp; (with_reducible refine hK _ _ ?_); clear hK K; try simp only [Act.put, nA, nB, nC]
                                (with_reducible refine wpList_step ?_); intro K hK; rw [if_pos (by rfl)]; go_simp; (with_reducible refine hK _ _ ?_); clear hK K; try simp only [Act.put, nA, nB, nC]
                                (with_reducible refine wpList_step ?_); intro K hK; rw [if_pos (by rfl)]; go_simp; (with_reducible refine hK _ _ ?_); clear hK K; try simp only [Act.put, nA, nB, nC]
                                (with_reducible refine wpList_step ?_); intro K hK; rw [if_pos (by rfl)]; go_simp; (with_reducible refine hK _ _ ?_); clear hK K; try simp only [Act.put, nA, nB, nC]
                                (with_reducible refine wpList_step ?_); intro K hK; rw [if_pos (by rfl)]; go_simp; (with_reducible refine hK _ _ ?_); clear hK K; try simp only [Act.put, nA, nB, nC]
                                (with_reducible refine wpList_step ?_); intro K hK; rw [if_pos (by rfl)]; go_simp; (with_reducible refine hK _ _ ?_); clear hK K; try simp only [Act.put, nA, nB, nC]
                                (with_reducible refine wpList_step ?_); intro K hK; rw [if_neg (Bool.eq_false_iff.1 (by rfl))]; (with_reducible refine hK _ _ ?_); clear hK K; try simp only [Act.put, nA, nB, nC]
                                (with_reducible refine wpList_step ?_); intro K hK; rw [if_neg (Bool.eq_false_iff.1 (by rfl))]; (with_reducible refine hK _ _ ?_); clear hK K; try simp only [Act.put, nA, nB, nC]
                                (with_reducible refine wpList_step ?_); intro K hK; rw [if_neg (Bool.eq_false_iff.1 (by rfl))]; (with_reducible refine hK _ _ ?_); clear hK K; try simp only [Act.put, nA, nB, nC]
                                (with_reducible refine wpList_step ?_); intro K hK; rw [if_neg (Bool.eq_false_iff.1 (by rfl))]; (with_reducible refine hK _ _ ?_); clear hK K; try simp only [Act.put, nA, nB, nC]
                                (with_reducible refine wpList_step ?_); intro K hK; rw [if_neg (Bool.eq_false_iff.1 (by rfl))]; (with_reducible refine hK _ _ ?_); clear hK K; try simp only [Act.put, nA, nB, nC]
                                (with_reducible refine wpList_step ?_); intro K hK; rw [if_neg (Bool.eq_false_iff.1 (by rfl))]; (with_reducible refine hK _ _ ?_); clear hK K; try simp only [Act.put, nA, nB, nC]
                                (with_reducible refine wpList_step ?_); intro K hK; rw [if_neg (Bool.eq_false_iff.1 (by rfl))]; (with_reducible refine hK _ _ ?_); clear hK K; try simp only [Act.put, nA, nB, nC]
                                (with_reducible refine wpList_step ?_); intro K hK; rw [if_neg (Bool.eq_false_iff.1 (by rfl))]; (with_reducible refine hK _ _ ?_); clear hK K; try simp only [Act.put, nA, nB, nC]
                                (with_reducible refine wpList_step ?_); intro K hK; rw [if_neg (Bool.eq_false_iff.1 (by rfl))]; (with_reducible refine hK _ _ ?_); clear hK K; try simp only [Act.put, nA, nB, nC]
                                (with_reducible refine wpList_step ?_); intro K hK; rw [if_neg (Bool.eq_false_iff.1 (by rfl))]; (with_reducible refine hK _ _ ?_); clear hK K; try simp only [Act.put, nA, nB, nC]
                                (with_reducible refine wpList_step ?_); intro K hK; rw [if_neg (Bool.eq_false_iff.1 (by rfl))]; (with_reducible refine hK _ _ ?_); clear hK K; try simp only [Act.put, nA, nB, nC]
                                (with_reducible refine wpList_step ?_); intro K hK; rw [if_neg (Bool.eq_false_iff.1 (by rfl))]; (with_reducible refine hK _ _ ?_); clear hK K; try simp only [Act.put, nA, nB, nC]
                                (with_reducible refine wpList_step ?_); intro K hK; rw [if_pos (by rfl)]; go_simp; (with_reducible refine hK _ _ ?_); clear hK K; try simp only [Act.put, nA, nB, nC]
                                (with_reducible refine wpList_plain rfl ?_); intro K hK; go_simp; (with_reducible refine hK _ _ ?_); clear hK K; try simp only [Act.put, nA, nB, nC]
                                clear iv y1 y1' g1 g2
                                go_wp2_with fail
                                exact ⟨⟨k9, hk3, (by first | rfl | trivial), rfl⟩, by simp only [intOf, Int.toNat_natCast]; exact hk4⟩
                              case neg =>
                                have iv : ¬ (k : Int) < (lb i : Int) := by omega
                                have y1 : decide (lb i ≤ k) = true := decide_eq_true (by omega)
                                have y1' : decide ((lb i : Int) ≤ (k : Int)) = true := decide_eq_true (by omega)
                                have hk70 : k - lb i < 70 := by have := HGN.out; omega
                                obtain ⟨r1, r2⟩ := repl_at (u := [Value.int .u32 (n : Int), .slice none 0 0]) (j := 0) hk70 (Nat.succ_pos _)
                                have e0 : (repl (lb i) [Value.int .u32 (m : Int), .slice none 0 0]).length = lb i * 2 := by rw [repl_len]; rfl
                                have e1 : [Value.int .u32 (n : Int), .slice none 0 0].length = 2 := rfl
                                have g2 := hgc (k * 2) (by rw [List.length_append, e0]; rw [e1] at r1; omega)
                                rw [List.getElem_append_right (by rw [e0]; omega)] at g2
                                have e2 : k * 2 - (repl (lb i) [Value.int .u32 (m : Int), .slice none 0 0]).length = (k - lb i) * [Value.int .u32 (n : Int), .slice none 0 0].length + 0 := by rw [e0, e1]; omega
                                simp only [e2, r2] at g2
                                have g2 : wr.cell? ⟨gg, go + k * 2, none⟩ = some (.int .u32 (n : Int)) := g2
                                clear hkl hk9 hkv hgc r1 r2 hk e0 e1 e2 hk70
                                go_upto_region 49 with fail
                                with_reducible refine wp_region_list ?_
                                (with_reducible refine wpList_plain rfl ?_); intro K hK; go_simp; (with_reducible refine hK _ _ ?_); clear hK K; try simp only [Act.put, nA, nB, nC]
                                (with_reducible refine wpList_plain rfl ?_); intro K hK; go_simp; (with_reducible refine hK _ _ ?_); clear hK K; try simp only [Act.put, nA, nB, nC]
                                (with_reducible refine wpList_plain rfl ?_); intro K hK; go_simp; (with_reducible refine hK _ _ ?_); clear hK K; try simp only [Act.put, nA, nB, nC]
                                (with_reducible refine wpList_plain rfl ?_); intro K hK; go_simp; (with_reducible refine hK _ _ ?_); clear hK K; try simp only [Act.put, nA, nB, nC]
                                (with_reducible refine wpList_plain rfl ?_); intro K hK; go_simp; (with_reducible refine hK _ _ ?_); clear hK K; try simp only [Act.put, nA, nB, nC]
                                (with_reducible refine wpList_plain rfl ?_); intro K hK; go_simp; (with_reducible refine hK _ _ ?_); clear hK K; try simp only [Act.put, nA, nB, nC]
                                (with_reducible refine wpList_plain rfl ?_); intro K hK; go_simp; (with_reducible refine hK _ _ ?_); clear hK K; try simp only [Act.put, nA, nB, nC]
                                (with_reducible refine wpList_plain rfl ?_); intro K hK; go_simp; (with_reducible refine hK _ _ ?_); clear hK K; try simp only [Act.put, nA, nB, nC]
                                (with_reducible refine wpList_step ?_); intro K hK; rw [if_neg (Bool.eq_false_iff.1 (by rfl))]; (with_reducible refine hK _ _ ?_); clear hK K; try simp only [Act.put, nA, nB, nC]
                                (with_reducible refine wpList_step ?_); intro K hK; rw [if_neg (Bool.eq_false_iff.1 (by rfl))]; (with_reducible refine hK _ _ ?_); clear hK K; try simp only [Act.put, nA, nB, nC]
                                (with_reducible refine wpList_step ?_); intro K hK; rw [if_neg (Bool.eq_false_iff.1 (by rfl))]; (with_reducible refine hK _ _ ?_); clear hK K; try simp only [Act.put, nA, nB, nC]
                                (with_reducible refine wpList_step ?_); intro K hK; rw [if_neg (Bool.eq_false_iff.1 (by rfl))]; (with_reducible refine hK _ _ ?_); clear hK K; try simp only [Act.put, nA, nB, nC]
                                (with_reducible refine wpList_step ?_); intro K hK; rw [if_neg (Bool.eq_false_iff.1 (by rfl))]; (with_reducible refine hK _ _ ?_); clear hK K; try simp only [Act.put, nA, nB, nC]
                                (with_reducible refine wpList_step ?_); intro K hK; rw [if_neg (Bool.eq_false_iff.1 (by rfl))]; (with_reducible refine hK _ _ ?_); clear hK K; try simp only [Act.put, nA, nB, nC]
                                (with_reducible refine wpList_step ?_); intro K hK; rw [if_neg (Bool.eq_false_iff.1 (by rfl))]; (with_reducible refine hK _ _ ?_); clear hK K; try simp only [Act.put, nA, nB, nC]
                                (with_reducible refine wpList_step ?_); intro K hK; rw [if_neg (Bool.eq_false_iff.1 (by rfl))]; (with_reducible refine hK _ _ ?_); clear hK K; try simp only [Act.put, nA, nB, nC]
                                (with_reducible refine wpList_step ?_); intro K hK; rw [if_neg (Bool.eq_false_iff.1 (by rfl))]; (with_reducible refine hK _ _ ?_); clear hK K; try simp only [Act.put, nA, nB, nC]
                                (with_reducible refine wpList_step ?_); intro K hK; rw [if_neg (Bool.eq_false_iff.1 (by rfl))]; (with_reducible refine hK _ _ ?_); clear hK K; try simp only [Act.put, nA, nB, nC]
                                (with_reducible refine wpList_step ?_); intro K hK; rw [if_neg (Bool.eq_false_iff.1 (by rfl))]; (with_reducible refine hK _ _ ?_); clear hK K; try simp only [Act.put, nA, nB, nC]
                                (with_reducible refine wpList_step ?_); intro K hK; rw [if_neg (Bool.eq_false_iff.1 (by rfl))]; (with_reducible refine hK _ _ ?_); clear hK K; try simp only [Act.put, nA, nB, nC]
                                (with_reducible refine wpList_step ?_); intro K hK; rw [if_neg (Bool.eq_false_iff.1 (by rfl))]; (with_reducible refine hK _ _ ?_); clear hK K; try simp only [Act.put, nA, nB, nC]
                                (with_reducible refine wpList_step ?_); intro K hK; rw [if_neg (Bool.eq_false_iff.1 (by rfl))]; (with_reducible refine hK _ _ ?_); clear hK K; try simp only [Act.put, nA, nB, nC]
                                (with_reducible refine wpList_step ?_); intro K hK; rw [if_neg (Bool.eq_false_iff.1 (by rfl))]; (with_reducible refine hK _ _ ?_); clear hK K; try simp only [Act.put, nA, nB, nC]
                                (with_reducible refine wpList_step ?_); intro K hK; rw [if_neg (Bool.eq_false_iff.1 (by rfl))]; (with_reducible refine hK _ _ ?_); clear hK K; try simp only [Act.put, nA, nB, nC]
                                (with_reducible refine wpList_step ?_); intro K hK; rw [if_neg (Bool.eq_false_iff.1 (by rfl))]; (with_reducible refine hK _ _ ?_); clear hK K; try simp only [Act.put, nA, nB, nC]
                                (with_reducible refine wpList_step ?_); intro K hK; rw [if_neg (Bool.eq_false_iff.1 (by rfl))]; (with_reducible refine hK _ _ ?_); clear hK K; try simp only [Act.put, nA, nB, nC]
                                (with_reducible refine wpList_step ?_); intro K hK; rw [if_neg (Bool.eq_false_iff.1 (by rfl))]; (with_reducible refine hK _ _ ?_); clear hK K; try simp only [Act.put, nA, nB, nC]
                                (with_reducible refine wpList_step ?_); intro K hK; rw [if_neg (Bool.eq_false_iff.1 (by rfl))]; (with_reducible refine hK _ _ ?_); clear hK K; try simp only [Act.put, nA, nB, nC]
                                (with_reducible refine wpList_step ?_); intro K hK; rw [if_neg (Bool.eq_false_iff.1 (by rfl))]; (with_reducible refine hK _ _ ?_); clear hK K; try simp only [Act.put, nA, nB, nC]
                                (with_reducible refine wpList_step ?_); intro K hK; rw [if_neg (Bool.eq_false_iff.1 (by rfl))]; (with_reducible refine hK _ _ ?_); clear hK K; try simp only [Act.put, nA, nB, nC]
                                (with_reducible refine wpList_step ?_); intro K hK; rw [if_neg (Bool.eq_false_iff.1 (by rfl))]; (with_reducible refine hK _ _ ?_); clear hK K; try simp only [Act.put, nA, nB, nC]
                                (with_reducible refine wpList_step ?_); intro K hK; rw [if_neg (Bool.eq_false_iff.1 (by rfl))]; (with_reducible refine hK _ _ ?_); clear hK K; try simp only [Act.put, nA, nB, nC]
                                (with_reducible refine wpList_step ?_); intro K hK; rw [if_neg (Bool.eq_false_iff.1 (by rfl))]; (with_reducible refine hK _ _ ?_); clear hK K; try simp only [Act.put, nA, nB, nC]
                                (with_reducible refine wpList_step ?_); intro K hK; rw [if_neg (Bool.eq_false_iff.1 (by rfl))]; (with_reducible refine hK _ _ ?_); clear hK K; try simp only [Act.put, nA, nB, nC]
                                (with_reducible refine wpList_plain rfl ?_); intro K hK; go_simp; (with_reducible refine hK _ _ ?_); clear hK K; try simp only [Act.put, nA, nB, nC]
                                (with_reducible refine wpList_plain rfl ?_); intro K hK; go_simp; (with_reducible refine hK _ _ ?_); clear hK K; try simp only [Act.put, nA, nB, nC]
                                (with_reducible refine wpList_step ?_); intro K hK; rw [if_pos (by rfl)]; go_simp; (with_reducible refine hK _ _ ?_); clear hK K; try simp only [Act.put, nA, nB, nC]
                                (with_reducible refine wpList_step ?_); intro K hK; rw [if_pos (by rfl)]; go_simp; (with_reducible refine hK _ _ ?_); clear hK K; try simp only [Act.put, nA, nB, nC]
                                (with_reducible refine wpList_step ?_); intro K hK; rw [if_pos (by rfl)]; go_simp; (with_reducible refine hK _ _ ?_); clear hK K; try simp only [Act.put, nA, nB, nC]
                                (with_reducible refine wpList_step ?_); intro K hK; rw [if_pos (by rfl)]; go_simp; (with_reducible refine hK _ _ ?_); clear hK K; try simp only [Act.put, nA, nB, nC]
                                (with_reducible refine wpList_step ?_); intro K hK; rw [if_pos (by rfl)]; go_simp; (with_reducible refine hK _ _ ?_); clear hK K; try simp only [Act.put, nA, nB, nC]
                                (with_reducible refine wpList_step ?_); intro K hK; rw [if_pos (by rfl)]; go_simp; (with_reducible refine hK _ _ ?_); clear hK K; try simp only [Act.put, nA, nB, nC]
                                (with_reducible refine wpList_step ?_); intro K hK; rw [if_pos (by rfl)]; go_simp; (with_reducible refine hK _ _ ?_); clear hK K; try simp only [Act.put, nA, nB, nC]
                                (with_reducible refine wpList_step ?_); intro K hK; rw [if_pos (by rfl)]; go_simp; (with_reducible refine hK _ _ ?_); clear hK K; try simp only [Act.put, nA, nB, nC]
                                (with_reducible refine wpList_step ?_); intro K hK; rw [if_pos (by rfl)]; go_simp; (with_reducible refine hK _ _ ?_); clear hK K; try simp only [Act.put, nA, nB, nC]
                                (with_reducible refine wpList_step ?_); intro K hK; rw [if_pos (by rfl)]; go_simp; (with_reducible refine hK _ _ ?_); clear hK K; try simp only [Act.put, nA, nB, nC]
                                (with_reducible refine wpList_step ?_); intro K hK; rw [if_pos (by rfl)]; go_simp; (with_reducible refine hK _ _ ?_); clear hK K; try simp only [Act.put, nA, nB, nC]
                                (with_reducible refine wpList_step ?_); intro K hK; rw [if_pos (by rfl)]; go_simp; (with_reducible refine hK _ _ ?_); clear hK K; try simp only [Act.put, nA, nB, nC]
                                (with_reducible refine wpList_step ?_); intro K hK; rw [if_pos (by rfl)]; go_simp; (with_reducible refine hK _ _ ?_); clear hK K; try simp only [Act.put, nA, nB, nC]
                                (with_reducible refine wpList_step ?_); intro K hK; rw [if_pos (by rfl)]; go_simp; (with_reducible refine hK _ _ ?_); clear hK K; try simp only [Act.put, nA, nB, nC]
                                (with_reducible refine wpList_step ?_); intro K hK; rw [if_pos (by rfl)]; go_simp; (with_reducible refine hK _ _ ?_); clear hK K; try simp only [Act.put, nA, nB, nC]
                                (with_reducible refine wpList_step ?_); intro K hK; rw [if_pos (by rfl)]; go_simp; (with_reducible refine hK _ _ ?_); clear hK K; try simp only [Act.put, nA, nB, nC]
                                (with_reducible refine wpList_step ?_); intro K hK; rw [if_pos (by rfl)]; go_simp; (with_reducible refine hK _ _ ?_); clear hK K; try simp only [Act.put, nA, nB, nC]
                                (with_reducible refine wpList_step ?_); intro K hK; rw [if_pos (by rfl)]; go_simp; (with_reducible refine hK _ _ ?_); clear hK K; try simp only [Act.put, nA, nB, nC]
                                (with_reducible refine wpList_step ?_); intro K hK; rw [if_pos (by rfl)]; go_simp; (with_reducible refine hK _ _ ?_); clear hK K; try simp only [Act.put, nA, nB, nC]
                                (with_reducible refine wpList_step ?_); intro K hK; rw [if_pos (by rfl)]; go_simp; (with_reducible refine hK _ _ ?_); clear hK K; try simp only [Act.put, nA, nB, nC]
                                (with_reducible refine wpList_step ?_); intro K hK; rw [if_pos (by rfl)]; go_simp; (with_reducible refine hK _ _ ?_); clear hK K; try simp only [Act.put, nA, nB, nC]
                                (with_reducible refine wpList_plain rfl ?_); intro K hK; go_simp; (with_reducible refine hK _ _ ?_); clear hK K; try simp only [Act.put, nA, nB, nC]
                                clear iv y1 y1' g2
                                go_wp2_with fail
                                exact ⟨⟨k9, hk3, (by first | rfl | trivial), rfl⟩, by simp only [intOf, Int.toNat_natCast]; exact hk4⟩
                            case neg =>
                              have ik : ¬ (k : Int) < (gN : Int) := by omega
                              clear hkl hk
                              go_wp2_with fail
                              exact ⟨⟨i9, hi3, (by first | rfl | trivial), rfl⟩, by simp only [intOf, Int.toNat_natCast]; exact hi4⟩
                        case neg =>
                          have ii : ¬ (i : Int) < (n2 : Int) := by omega
                          clear hlt hi
                          have HF := Lib.hid (MD.out.mono (T := fun g => lab g ≠ 0) (fun q _ h => h.2))
                          go_wp2_with fail
                          go_ret
                          exact ⟨rfl, HF.out⟩
end Go.Proofs.Ytkngmnfgdlnddaa

