/-
  The walk of the reference's Parts.
-/
import Derived.Test.YtmjikebbknjahaaPartsW
namespace Go.Proofs.Ytmjikebbknjahaa
open Go.RowKit Go.Lib Hw
set_option linter.unusedVariables false

theorem int_lt_true {a b : Int} (h : a < b) : decide (a < b) = true := decide_eq_true h
theorem int_lt_false {a b : Int} (h : ¬ a < b) : decide (a < b) = false := decide_eq_false h

set_option maxHeartbeats 4000000 in
theorem refParts_bad (s : ByteArray) (n : UInt8) (r : List UInt8) (w : World) (hs : s.size ≤ 100000000) (hr : s.data.toList = n :: r) (hbad : n.toNat = 0 ∨ 64 < n.toNat ∨ r.length < n.toNat) :
    Calls Try.prog 58 #[.string s] w (PartsPost w none) := by
  have hrl : s.size = r.length + 1 := by rw [← data_len, hr]; rfl
  have hz : 0 < s.size := by omega
  have hn : s[0] = n := get_list s 0 hz n (by rw [hr]; rfl)
  have hnb := n.toNat_lt
  have d0 : decide ((s.size : Int) < 1) = false := by simp; omega
  have key : (decide ((n.toNat : Int) < 1) = true) ∨ (decide ((n.toNat : Int) < 1) = false ∧ decide ((64 : Int) < (n.toNat : Int)) = true) ∨ (decide ((n.toNat : Int) < 1) = false ∧ decide ((64 : Int) < (n.toNat : Int)) = false ∧ decide ((s.size : Int) < 1 + (n.toNat : Int)) = true) := by
    by_cases a1 : n.toNat = 0
    · exact .inl (int_lt_true (by omega))
    · by_cases a2 : 64 < n.toNat
      · exact .inr (.inl ⟨int_lt_false (by omega), int_lt_true (by omega)⟩)
      · exact .inr (.inr ⟨int_lt_false (by omega), int_lt_false (by omega), int_lt_true (by omega)⟩)
  have hnb2 : n.toNat < 256 := hnb
  have hz2 : (s.size : Int) ≤ 100000000 := by omega
  clear hbad hr hrl hnb
  rcases key with k1 | ⟨k1, k2⟩ | ⟨k1, k2, k3⟩ <;>
  · go_enter Try.func58, Try.ntmps58
    go_wp2_with fail
    all_goals exact bodyPost_ret (v := .tuple #[.string ⟨#[]⟩, .slice none 0 0, .int .i64 21]) (by simp [results, Try.results58, go_sem]) rfl ⟨Below.refl _ _, rfl⟩

set_option maxHeartbeats 4000000 in
theorem refParts_any (s : ByteArray) (w : World) (hs : s.size ≤ 100000000) :
    Calls Try.prog 58 #[.string s] w (PartsPost w (partsR s)) := by
  obtain ⟨R, hR⟩ : ∃ R, partsR s = R := ⟨_, rfl⟩
  rw [hR]
  by_cases h0 : s.size = 0
  · have he : s = ⟨#[]⟩ := by cases s with | mk d => have : d.size = 0 := h0; simp at this; subst this; rfl
    subst he
    obtain rfl : R = none := hR.symm
    clear h0 hs hR
    go_enter Try.func58, Try.ntmps58
    go_wp2_with fail
    exact bodyPost_ret (v := .tuple #[.string ⟨#[]⟩, .slice none 0 0, .int .i64 21]) (by simp [results, Try.results58, go_sem]) rfl ⟨Below.refl _ _, rfl⟩
  · have hz : 0 < s.size := by omega
    obtain ⟨n, hn⟩ : ∃ n : UInt8, s[0] = n := ⟨_, rfl⟩
    obtain ⟨r, hr⟩ : ∃ r, s.data.toList = n :: r := by
      have hl := data_len s
      have hg : s.data.toList[0]? = some n := by
        rw [List.getElem?_eq_getElem (by omega), ← hn]; rfl
      cases hd : s.data.toList with
      | nil => rw [hd] at hg; simp at hg
      | cons x r =>
        rw [hd] at hg
        simp only [List.getElem?_cons_zero, Option.some.injEq] at hg
        subst hg
        exact ⟨r, rfl⟩
    have hrl : s.size = r.length + 1 := by rw [← data_len, hr]; rfl
    have hRR : (bif n.toNat == 0 || decide (64 < n.toNat) || decide (r.length < n.toNat) then none else (parse s.size [] (r.drop n.toNat)).map (fun l => ((⟨(r.take n.toNat).toArray⟩ : ByteArray), l))) = R := by rw [← hR]; unfold partsR; rw [hr]
    clear hR
    have hnb := n.toNat_lt
    by_cases hbad : n.toNat = 0 ∨ 64 < n.toNat ∨ r.length < n.toNat
    · obtain rfl : R = none := by
        rw [← hRR]
        rcases hbad with h | h | h <;> simp [h]
      exact refParts_bad s n r w hs hr hbad
    · have h1 : ¬ n.toNat = 0 := fun h => hbad (.inl h)
      have h2 : ¬ 64 < n.toNat := fun h => hbad (.inr (.inl h))
      have h3 : ¬ r.length < n.toNat := fun h => hbad (.inr (.inr h))
      have HR := Lib.hid hr
      have hRR' : (parse s.size [] (r.drop n.toNat)).map (fun l => ((⟨(r.take n.toNat).toArray⟩ : ByteArray), l)) = R := by
        rw [← hRR, decide_eq_false h2, decide_eq_false h3, beq_eq_false_iff_ne.2 h1]; rfl
      have HRR := Lib.hid hRR'
      obtain ⟨P, hP⟩ : ∃ P, parse s.size [] (r.drop n.toNat) = P := ⟨_, rfl⟩
      rw [hP] at HRR
      have hrest : s.data.toList.drop (1 + n.toNat) = r.drop n.toNat := by
        rw [hr, Nat.add_comm, List.drop_succ_cons]
      have htag : s.extract 1 (1 + n.toNat) = ⟨(r.take n.toNat).toArray⟩ := by
        rw [bytes_take _ _ _ (by omega) (by omega), hr, Nat.add_sub_cancel_left]; rfl
      have d0 : decide ((s.size : Int) < 1) = false := by simp; omega
      have d1 : decide ((n.toNat : Int) < 1) = false := by simp; omega
      have d2 : decide ((64 : Int) < (n.toNat : Int)) = false := by simp; omega
      have d3 : decide ((s.size : Int) < 1 + (n.toNat : Int)) = false := by simp; omega
      have hP' : Hid (parse s.size [] (s.data.toList.drop (1 + n.toNat)) = P) := by show _ = _; rw [hrest]; exact hP
      have HT := Lib.hid htag
      have hnb2 : 1 ≤ n.toNat ∧ n.toNat ≤ 64 ∧ 1 + n.toNat ≤ s.size := by omega
      have htz : (s.extract 1 (1 + n.toNat)).size = n.toNat := by rw [ByteArray.size_extract]; omega
      clear hr hRR hRR' hbad hP hrest htag h1 h2 h3 hrl hnb h0
      go_enter Try.func58, Try.ntmps58
      go_wp2_with fail
      go_loopw [6, 7, 8] (fun av v kk wr => ∃ (acc : List ByteArray) (pos f : Nat), av = .int .i64 (pos : Int) ∧ Hid (pos ≤ s.size) ∧ Hid (s.size - pos ≤ f) ∧ Hid (4 * acc.length ≤ pos) ∧ Hid (parse f acc (s.data.toList.drop pos) = P) ∧ Hid (OwnT wr w.heap.size v acc) ∧ Hid (Below w.heap.size w wr)) (fun av _ _ _ => s.size - (intOf av).toNat)
      case atStart => exact ⟨[], 1 + n.toNat, s.size, by go_num, by show _ ≤ _; omega, by show _ ≤ _; omega, by show _ ≤ _; simp, hP', OwnT.nil _ _, Below.refl _ _⟩
      case round =>
        clear hP'
        obtain ⟨acc, pos, f, rfl, Hps, Hf, Hz, HP, HO, HB⟩ := hrel
        have hps := Hps.out
        by_cases hrz : pos < s.size
        · by_cases h4 : s.size - pos < 4
          · have hP2 : none = P := by rw [← HP.out]; exact (parse_short f acc _ (by rw [List.length_drop, data_len]; omega) (by rw [List.length_drop, data_len]; omega)).symm
            have hR2 : R = none := by rw [← HRR.out, ← hP2]; rfl
            have HR2 := Lib.hid hR2
            have d4 : decide ((s.size : Int) - (pos : Int) < 4) = true := int_lt_true (by omega)
            clear hR2 hP2 HP
            go_wp2_with fail
            refine bodyPost_ret (v := .tuple #[.string ⟨#[]⟩, .slice none 0 0, .int .i64 21]) (by simp [results, Try.results58, go_sem]) rfl ⟨HB.out, ?_⟩
            rw [HR2.out]
          · have d4 : decide ((s.size : Int) - (pos : Int) < 4) = false := int_lt_false (by omega)
            obtain ⟨b0, b1, b2, b3, tl, htl⟩ := four_cons (l := s.data.toList.drop pos) (by rw [List.length_drop, data_len]; omega)
            have gg : ∀ (j : Nat) (b : UInt8), (b0 :: b1 :: b2 :: b3 :: tl)[j]? = some b → s.data.toList[pos + j]? = some b := by
              intro j b hb
              rw [← htl, List.getElem?_drop] at hb
              exact hb
            have e0 := get_list s pos (by omega) b0 (gg 0 b0 rfl)
            have e1 := get_list s (pos + 1) (by omega) b1 (gg 1 b1 rfl)
            have e2 := get_list s (pos + 2) (by omega) b2 (gg 2 b2 rfl)
            have e3 := get_list s (pos + 3) (by omega) b3 (gg 3 b3 rfl)
            have h4' : pos + 4 ≤ s.size ∧ s.size ≤ 100000000 := by omega
            have t1 : ((pos : Int) + 1).toNat = pos + 1 := by omega
            have t2 : ((pos : Int) + 2).toNat = pos + 2 := by omega
            have t3 : ((pos : Int) + 3).toNat = pos + 3 := by omega
            have l1 : pos + 1 < s.size := by omega
            have l2 : pos + 2 < s.size := by omega
            have l3 : pos + 3 < s.size := by omega
            have Htl := Lib.hid htl
            clear htl gg
            go_upto_region 9 with fail
            go_quiet (fail)
            rw [num4_walk]
            have hnl := num4_lt b0 b1 b2 b3
            have htl := Htl.out
            have htls : tl.length = s.size - (pos + 4) := by
              have := congrArg List.length htl
              rw [List.length_drop, data_len] at this
              simp only [List.length_cons] at this
              omega
            have hdr : s.data.toList.drop (pos + 4) = tl := by
              rw [← List.drop_drop, htl]; rfl
            obtain ⟨K, hK⟩ : ∃ K, num4 b0 b1 b2 b3 = K := ⟨_, rfl⟩
            obtain ⟨g, rfl⟩ : ∃ g, f = g + 1 := ⟨f - 1, by have := Hf.out; omega⟩
            rw [hK] at hnl ⊢
            have Htls := Lib.hid htls
            have Hdr := Lib.hid hdr
            have HK := Lib.hid hK
            clear htl htls hdr hK
            go_upto_region 10 with fail
            refine wp_name (fun W => Hid (OwnT W w.heap.size u7 acc) ∧ Hid (Below w.heap.size w W)) ⟨(HO.out : OwnT (wr.drewN nq) w.heap.size u7 acc), below_drewN HB.out _⟩ (fun wq hq => ?_)
            obtain ⟨HO2, HB2⟩ := hq
            have hz1 := HB2.out.size
            clear HO HB e0 e1 e2 e3
            obtain ⟨q, hq4⟩ : ∃ q : Nat, (pos : Int) + 4 = (q : Int) := ⟨pos + 4, by omega⟩
            have hqp : q = pos + 4 := by omega
            obtain ⟨B5, d5⟩ : ∃ B, decide ((s.size : Int) - (q : Int) < (K : Int)) = B := ⟨_, rfl⟩
            have Hqp := Lib.hid hqp
            have hqs : q ≤ s.size := by omega
            clear hqp
            go_upto_if 81 with fail
            have hqp := Hqp.out
            clear hq4 t1 t2 t3 l1 l2 l3 d4
            have htls := Htls.out
            by_cases hlt : tl.length < K
            · obtain rfl : B5 = true := by rw [← d5]; exact int_lt_true (by omega)
              have hP2 : none = P := by rw [← HP.out, Htl.out]; exact (parse_more g acc b0 b1 b2 b3 tl (by rw [HK.out]; exact hlt)).symm
              have hR2 : R = none := by rw [← HRR.out, ← hP2]; rfl
              have HR2 := Lib.hid hR2
              clear hR2 hP2 HP hlt htls hnl Htl Hf Hz d5 hqp Hqp hqs h4'
              go_wp2_with fail
              refine bodyPost_ret (v := .tuple #[.string ⟨#[]⟩, .slice none 0 0, .int .i64 21]) (by simp [results, Try.results58, go_sem]) rfl ⟨HB2.out, ?_⟩
              rw [HR2.out]
            · obtain rfl : B5 = false := by rw [← d5]; exact int_lt_false (by omega)
              have hx : s.extract q (q + K) = ⟨(tl.take K).toArray⟩ := by
                rw [bytes_take _ _ _ (by omega) (by omega), hqp, Hdr.out, Nat.add_sub_cancel_left]
              have hP2 : parse g (acc ++ [s.extract q (q + K)]) (s.data.toList.drop (q + K)) = P := by
                rw [← HP.out, Htl.out, parse_go g acc b0 b1 b2 b3 tl (by rw [HK.out]; exact hlt), HK.out, hx, ← List.drop_drop, hqp, Hdr.out]
              have HP2 := Lib.hid hP2
              have hKs : q + K ≤ s.size := by omega
              have hf2 : s.size - (q + K) ≤ g := by have := Hf.out; omega
              have hz2 : 4 * (acc ++ [s.extract q (q + K)]).length ≤ q + K := by rw [List.length_append, List.length_singleton]; have := Hz.out; omega
              have hlt2 : s.size - (q + K) < s.size - pos := by omega
              have hacc : (acc.length + 1) * 16 ≤ 140737488355328 := by have := Hz.out; omega
              have t5 : ((q : Int) + (K : Int)).toNat = q + K := by omega
              have Hf2 := Lib.hid hf2
              have Hz2 := Lib.hid hz2
              have Hlt2 := Lib.hid hlt2
              have HKs := Lib.hid hKs
              clear hP2 HP hf2 hz2 hlt2 htls hlt hx hqp Hqp d5 h4' Htl Htls Hdr
              go_wp2_with (at_builtin; refine wpList_appT wq 9 (s.extract q (q + K)) rfl _ _ rfl w.heap.size u7 acc rfl HO2.out _ rfl hacc hz1 ?_; intro v2 w2 hv2 hb2)
              have hlt3 := Hlt2.out
              exact ⟨⟨_, q + K, g, by go_num, HKs, Hf2, Hz2, HP2, hv2, HB2.out.trans hb2⟩, by simp only [intOf, t5]; omega⟩
        · obtain rfl : pos = s.size := by omega
          have hP2 : some acc = P := by rw [← HP.out, List.drop_of_length_le (by rw [data_len]; exact Nat.le_refl _)]; exact (parse_nil f acc).symm
          have hR2 : R = some (s.extract 1 (1 + n.toNat), acc) := by rw [← HRR.out, ← hP2, HT.out]; rfl
          have HR2 := Lib.hid hR2
          clear hR2 hP2 HP
          go_wp2_with fail
          refine bodyPost_ret (v := .tuple #[.string (s.extract 1 (1 + n.toNat)), u7, .int .i64 0]) (by simp [results, Try.results58, go_sem]) rfl ⟨HB.out, ?_⟩
          rw [HR2.out]
          exact ⟨_, rfl, HO.out⟩
end Go.Proofs.Ytmjikebbknjahaa
