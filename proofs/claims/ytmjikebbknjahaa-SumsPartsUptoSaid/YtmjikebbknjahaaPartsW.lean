/-
  The walks of sums.Parts and of the reference's Parts.
-/
import Derived.Test.YtmjikebbknjahaaOwnT
import Derived.Test.YtmjikebbknjahaaNum4
import Derived.BigQuiet
namespace Go.Proofs.Ytmjikebbknjahaa
open Go.RowKit Go.Lib Hw
set_option linter.unusedVariables false

def PartsPost (w : World) (R : Option (ByteArray × List ByteArray)) (e : Ending) (w' : World) : Prop :=
  Below w.heap.size w w' ∧ match R with
    | none => e = .returned (.tuple #[.string ⟨#[]⟩, .slice none 0 0, .int .i64 21])
    | some (t, l) => ∃ v, e = .returned (.tuple #[.string t, v, .int .i64 0]) ∧ OwnT w' w.heap.size v l

theorem bytes_drop (s : ByteArray) (i : Nat) (h : i ≤ s.size) : (s.extract i s.size).data.toList = s.data.toList.drop i := by
  rw [ByteArray.data_extract, Array.toList_extract, List.extract_eq_take_drop]
  rw [List.take_of_length_le]
  rw [List.length_drop, data_len]
  omega
theorem bytes_take (s : ByteArray) (i j : Nat) (h : i ≤ j) (hj : j ≤ s.size) : s.extract i j = ⟨((s.data.toList.drop i).take (j - i)).toArray⟩ := by
  apply ByteArray.ext
  apply Array.toList_inj.1
  rw [ByteArray.data_extract, Array.toList_extract, List.extract_eq_take_drop]

def szV : Value → Nat
  | .string s => s.size
  | _ => 0
theorem four_cons {l : List UInt8} (h : 4 ≤ l.length) : ∃ b0 b1 b2 b3 tl, l = b0 :: b1 :: b2 :: b3 :: tl := by
  match l, h with
  | b0 :: b1 :: b2 :: b3 :: tl, _ => exact ⟨b0, b1, b2, b3, tl, rfl⟩
theorem get_list (s : ByteArray) (i : Nat) (h : i < s.size) (b : UInt8) (hb : s.data.toList[i]? = some b) : s[i] = b := by
  have hl := data_len s
  rw [List.getElem?_eq_getElem (by omega), Option.some.injEq] at hb
  exact hb

set_option maxHeartbeats 4000000 in
theorem Parts_any (s : ByteArray) (w : World) (hs : s.size ≤ 100000000) :
    Calls Try.prog 57 #[.string s] w (PartsPost w (partsR s)) := by
  obtain ⟨R, hR⟩ : ∃ R, partsR s = R := ⟨_, rfl⟩
  rw [hR]
  by_cases h0 : s.size = 0
  · have he : s = ⟨#[]⟩ := by cases s with | mk d => have : d.size = 0 := h0; simp at this; subst this; rfl
    subst he
    obtain rfl : R = none := hR.symm
    clear h0 hs hR
    go_enter Try.func57, Try.ntmps57
    go_wp2_with fail
    exact bodyPost_ret (v := .tuple #[.string ⟨#[]⟩, .slice none 0 0, .int .i64 21]) (by simp [results, Try.results57, go_sem]) rfl ⟨Below.refl _ _, rfl⟩
  · have hne := not_empty s h0
    have hz : 0 < s.size := by omega
    obtain ⟨n, hn⟩ : ∃ n : UInt8, s[0] = n := ⟨_, rfl⟩
    obtain ⟨r, hr⟩ : ∃ r, s.data.toList = n :: r := by
      have hl := data_len s
      have hg : s.data.toList[0]? = some n := by
        rw [List.getElem?_eq_getElem (by omega), ← hn]; rfl
      cases hd : s.data.toList with
      | nil => rw [hd] at hg; simp at hg
      | cons x r =>
        rw [hd] at hg
        simp only [List.getElem?_cons_zero, Option.some.injEq] at hg
        subst hg
        exact ⟨r, rfl⟩
    have hrl : s.size = r.length + 1 := by rw [← data_len, hr]; rfl
    have hRR : (bif n.toNat == 0 || decide (64 < n.toNat) || decide (r.length < n.toNat) then none else (parse s.size [] (r.drop n.toNat)).map (fun l => ((⟨(r.take n.toNat).toArray⟩ : ByteArray), l))) = R := by rw [← hR]; unfold partsR; rw [hr]
    clear hR
    have hnb := n.toNat_lt
    by_cases hbad : n.toNat = 0 ∨ 64 < n.toNat ∨ r.length < n.toNat
    · obtain rfl : R = none := by
        rw [← hRR]
        rcases hbad with h | h | h <;> simp [h]
      clear hRR
      have HR := Lib.hid hr
      clear hr
      go_enter Try.func57, Try.ntmps57
      go_wp2_with fail
      all_goals exact bodyPost_ret (v := .tuple #[.string ⟨#[]⟩, .slice none 0 0, .int .i64 21]) (by simp [results, Try.results57, go_sem]) rfl ⟨Below.refl _ _, rfl⟩
    · have h1 : ¬ n.toNat = 0 := fun h => hbad (.inl h)
      have h2 : ¬ 64 < n.toNat := fun h => hbad (.inr (.inl h))
      have h3 : ¬ r.length < n.toNat := fun h => hbad (.inr (.inr h))
      have HR := Lib.hid hr
      have hRR' : (parse s.size [] (r.drop n.toNat)).map (fun l => ((⟨(r.take n.toNat).toArray⟩ : ByteArray), l)) = R := by
        rw [← hRR, decide_eq_false h2, decide_eq_false h3, beq_eq_false_iff_ne.2 h1]; rfl
      have HRR := Lib.hid hRR'
      obtain ⟨P, hP⟩ : ∃ P, parse s.size [] (r.drop n.toNat) = P := ⟨_, rfl⟩
      rw [hP] at HRR
      have hrest : (s.extract (1 + n.toNat) s.size).data.toList = r.drop n.toNat := by
        rw [bytes_drop _ _ (by omega), hr, Nat.add_comm, List.drop_succ_cons]
      have htag : s.extract 1 (1 + n.toNat) = ⟨(r.take n.toNat).toArray⟩ := by
        rw [bytes_take _ _ _ (by omega) (by omega), hr, Nat.add_sub_cancel_left]; rfl
      have d1 : decide ((n.toNat : Int) < 1) = false := by simp; omega
      have d2 : decide ((64 : Int) < (n.toNat : Int)) = false := by simp; omega
      have d3 : decide ((s.size : Int) < 1 + (n.toNat : Int)) = false := by simp; omega
      have hP' : Hid (parse s.size [] (s.extract (1 + n.toNat) s.size).data.toList = P) := by show _ = _; rw [hrest]; exact hP
      have HT := Lib.hid htag
      have hnb2 : 1 ≤ n.toNat ∧ n.toNat ≤ 64 ∧ 1 + n.toNat ≤ s.size := by omega
      clear hr hRR hRR' hbad hP hrest htag h1 h2 h3 hrl hnb h0
      go_enter Try.func57, Try.ntmps57
      go_upto_region 7 with fail
      go_quiet (fail)
      have hb0 : Hid (Below w.heap.size w (w.drewN nq)) := below_drewN (Below.refl _ _) _
      go_wp2_with fail
      go_loopw [2, 3, 6, 7] (fun tg v rs kk wr => ∃ (acc : List ByteArray) (rest : ByteArray) (f : Nat), tg = .string (s.extract 1 (1 + n.toNat)) ∧ rs = .string rest ∧ Hid (rest.size ≤ f) ∧ Hid (4 * acc.length + rest.size ≤ s.size) ∧ Hid (parse f acc rest.data.toList = P) ∧ Hid (OwnT wr w.heap.size v acc) ∧ Hid (Below w.heap.size w wr)) (fun _ _ rs _ _ => szV rs)
      case atStart => exact ⟨[], _, s.size, rfl, rfl, by show _ ≤ _; rw [ByteArray.size_extract]; omega, by show _ ≤ _; rw [ByteArray.size_extract]; simp, hP', OwnT.nil _ _, hb0⟩
      case round =>
        clear hP' hb0
        obtain ⟨acc, rest, f, rfl, rfl, Hf, Hz, HP, HO, HB⟩ := hrel
        by_cases hrz : rest.size = 0
        · have he : rest = ⟨#[]⟩ := by cases rest with | mk d => have : d.size = 0 := hrz; simp at this; subst this; rfl
          subst he
          have hP2 : some acc = P := by rw [← HP.out]; exact (parse_nil f acc).symm
          have hR2 : R = some (s.extract 1 (1 + n.toNat), acc) := by rw [← HRR.out, ← hP2, HT.out]; rfl
          have HR2 := Lib.hid hR2
          clear hR2 hP2 HP
          go_wp2_with fail
          refine bodyPost_ret (v := .tuple #[.string (s.extract 1 (1 + n.toNat)), u3, .int .i64 0]) (by simp [results, Try.results57, go_sem]) rfl ⟨HB.out, ?_⟩
          rw [HR2.out]
          exact ⟨_, rfl, HO.out⟩
        · have hne2 := not_empty rest hrz
          by_cases h4 : rest.size < 4
          · have hP2 : none = P := by rw [← HP.out]; exact (parse_short f acc _ (by rw [data_len]; omega) (by rw [data_len]; omega)).symm
            have hR2 : R = none := by rw [← HRR.out, ← hP2]; rfl
            have HR2 := Lib.hid hR2
            have d4 : decide ((rest.size : Int) < 4) = true := by simp; omega
            clear hR2 hP2 HP
            go_wp2_with fail
            refine bodyPost_ret (v := .tuple #[.string ⟨#[]⟩, .slice none 0 0, .int .i64 21]) (by simp [results, Try.results57, go_sem]) rfl ⟨HB.out, ?_⟩
            rw [HR2.out]
          · have d4 : decide ((rest.size : Int) < 4) = false := by simp; omega
            obtain ⟨b0, b1, b2, b3, tl, htl⟩ := four_cons (l := rest.data.toList) (by rw [data_len]; omega)
            have e0 := get_list rest 0 (by omega) b0 (by rw [htl]; rfl)
            have e1 := get_list rest 1 (by omega) b1 (by rw [htl]; rfl)
            have e2 := get_list rest 2 (by omega) b2 (by rw [htl]; rfl)
            have e3 := get_list rest 3 (by omega) b3 (by rw [htl]; rfl)
            have h4' : 4 ≤ rest.size := by omega
            have Htl := Lib.hid htl
            clear htl
            go_upto_region 10 with fail
            go_quiet (fail)
            rw [num4_walk]
            have hnl := num4_lt b0 b1 b2 b3
            have HB1 : Hid (Below w.heap.size w (wr.drewN nq)) := below_drewN HB.out _
            have HO1 : Hid (OwnT (wr.drewN nq) w.heap.size u3 acc) := HO.out
            have htl := Htl.out
            have hr4 : (rest.extract 4 rest.size).data.toList = tl := by rw [bytes_drop _ _ h4', htl]; rfl
            have hs4 : (rest.extract 4 rest.size).size = rest.size - 4 := by rw [ByteArray.size_extract]; omega
            have htls : tl.length = rest.size - 4 := by rw [← hr4, data_len, hs4]
            obtain ⟨K, hK⟩ : ∃ K, num4 b0 b1 b2 b3 = K := ⟨_, rfl⟩
            obtain ⟨g, rfl⟩ : ∃ g, f = g + 1 := ⟨f - 1, by have := Hf.out; omega⟩
            obtain ⟨rt, hrt⟩ : ∃ rt, rest.extract 4 rest.size = rt := ⟨_, rfl⟩
            have Hrt := Lib.hid hrt
            rw [hK] at hnl ⊢
            rw [hrt] at hr4 hs4
            have Hs4 := Lib.hid hs4
            clear htl hs4
            go_upto_region 12 with fail
            refine wp_name (fun W => Hid (OwnT W w.heap.size u3 acc) ∧ Hid (Below w.heap.size w W)) ⟨HO1, HB1⟩ (fun wq hq => ?_)
            obtain ⟨HO2, HB2⟩ := hq
            have hz1 := HB2.out.size
            clear HO1 HB1 HO HB
            obtain ⟨B5, d5⟩ : ∃ B, decide (rt.size < K) = B := ⟨_, rfl⟩
            go_upto_if 62 with fail
            have hs4 := Hs4.out
            by_cases hlt : rt.size < K
            · obtain rfl : B5 = true := by rw [← d5]; simp; omega
              have hP2 : none = P := by rw [← HP.out, Htl.out]; exact (parse_more g acc b0 b1 b2 b3 tl (by omega)).symm
              have hR2 : R = none := by rw [← HRR.out, ← hP2]; rfl
              have HR2 := Lib.hid hR2
              clear hR2 hP2 HP hs4 hr4 hlt htls Hrt hrt hK hnl e0 e1 e2 e3 d4 Htl Hf Hz d5
              go_wp2_with fail
              refine bodyPost_ret (v := .tuple #[.string ⟨#[]⟩, .slice none 0 0, .int .i64 21]) (by simp [results, Try.results57, go_sem]) rfl ⟨HB2.out, ?_⟩
              rw [HR2.out]
            · obtain rfl : B5 = false := by rw [← d5]; simp; omega
              have hP2 : parse g (acc ++ [rt.extract 0 K]) (rt.extract K rt.size).data.toList = P := by
                rw [← HP.out, Htl.out, parse_go g acc b0 b1 b2 b3 tl (by omega), hK, bytes_drop _ _ (by omega), bytes_take _ _ _ (by omega) (by omega), hr4]; rfl
              have HP2 := Lib.hid hP2
              have hKs : K ≤ rt.size := by omega
              have hf2 : (rt.extract K rt.size).size ≤ g := by rw [ByteArray.size_extract]; have := Hf.out; omega
              have hz2 : 4 * (acc ++ [rt.extract 0 K]).length + (rt.extract K rt.size).size ≤ s.size := by rw [ByteArray.size_extract, List.length_append, List.length_singleton]; have := Hz.out; omega
              have hlt2 : (rt.extract K rt.size).size < rest.size := by rw [ByteArray.size_extract]; omega
              have hacc : (acc.length + 1) * 16 ≤ 140737488355328 := by have := Hz.out; omega
              have Hf2 := Lib.hid hf2
              have Hz2 := Lib.hid hz2
              have Hlt2 := Lib.hid hlt2
              clear hP2 HP hf2 hz2 hlt2 hr4 htls hs4 hlt Hrt hrt
              go_wp2_with (at_builtin; refine wpList_appT wq 9 (rt.extract 0 K) rfl _ _ rfl w.heap.size u3 acc rfl HO2.out _ rfl hacc hz1 ?_; intro v2 w2 hv2 hb2)
              exact ⟨⟨_, _, g, rfl, rfl, Hf2, Hz2, HP2, hv2, HB2.out.trans hb2⟩, Hlt2.out⟩
end Go.Proofs.Ytmjikebbknjahaa
