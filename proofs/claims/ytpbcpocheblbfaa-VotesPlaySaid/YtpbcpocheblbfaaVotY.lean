/- The document's book of votes: Count, Cert. -/
import Derived.Test.YtpbcpocheblbfaaVotX
namespace Go.Proofs.Ytpbcpocheblbfaa
set_option linter.unusedVariables false
set_option linter.unusedSimpArgs false
open Go.RowKit Go.MapKept

set_option maxRecDepth 100000 in
set_option maxHeartbeats 8000000 in
theorem rcount_any (w : World) {rb N : Nat} {M : List (Ent One)} (h : RefB w rb (N : Int) (ones M)) (hi : Inv N M) (ha : Apart M) (hok : ∀ p ∈ M, p.2.ok) (hN : N ≤ 64) (v : Vt) (hv : v.ok) :
    Calls Try.prog 16 #[.pointer (some ⟨rb, 0, none⟩), vval v] w fun e w' => e = .returned (.int .i64 (countM M v : Int)) ∧ Below w.heap.size w w' := by
  rw [count_eq hi ha v]
  have H := Lib.hid h
  have hcall0 := fun w hb => rsigns_any w (h.below hb) hi hok hN v hv
  generalize signsP M v N = L at hcall0 ⊢
  have HCALL := Lib.hid hcall0
  clear hcall0
  go_enter Try.func16, Try.ntmps16
  go_wp2_with (first | (refine wpList_box_big rfl 30 _ rfl (vcells v).toArray rfl ?_; intro vb w1 HVB hb1 hbl1 HS1) | (refine wpList_val rfl (load_vote hv (range_of_blk hb1) rfl rfl) ?_))
  refine (HCALL.out w1 hbl1).mono ?_
  rintro e w2 ⟨A, c, rfl, hc, _, _, _, hbl2⟩
  go_wp2_with fail
  go_ret
  exact ⟨rfl, hbl1.trans (Below.up hbl2 hbl1.size)⟩
theorem built_cert2 {v : Vt} (hv : v.ok) (A : Option Addr) (n c : Nat) : Try.prog.built 39 [(0, vval v), (1, .slice A n c)] = some (ccells v (.slice A n c)).toArray := by
  refine built_of (z := vcells zeroV ++ [.slice none 0 0]) (n := 37) (places := [(0, 36), (36, 1)]) Try.underlying39 (by kernel_rfl) (by kernel_rfl) ?_
  have e1 := fill_one (place := ([(0, 36), (36, 1)].toArray[·]?)) (i := 0) (off := 0) (size := 36) (pre := []) (ys := vcells zeroV) (zs := [.slice none 0 0]) (xs := vcells v) (rest := [(1, .slice A n c)]) rfl rfl (vcells_len hv) (by decide) (v := vval v) rfl
  have e2 := fill_one (place := ([(0, 36), (36, 1)].toArray[·]?)) (i := 1) (off := 36) (size := 1) (pre := vcells v) (ys := [.slice none 0 0]) (zs := []) (xs := [.slice A n c]) (rest := []) rfl (vcells_len hv) rfl rfl (v := .slice A n c) rfl
  simp only [List.nil_append, List.append_nil] at e1 e2
  rw [e1, e2]
  rfl
theorem cert_len {M : List (Ent One)} {v : Vt} {N : Nat} {need : Int} (h : certOk M v N need = true) : 1 ≤ need ∧ need ≤ ((signsP M v N).length : Int) := by
  unfold certOk at h
  simpa using h
set_option maxRecDepth 100000 in
set_option maxHeartbeats 8000000 in
theorem rcert_any (w : World) {rb N : Nat} {M : List (Ent One)} (h : RefB w rb (N : Int) (ones M)) (hi : Inv N M) (hok : ∀ p ∈ M, p.2.ok) (hN : N ≤ 64) (v : Vt) (hv : v.ok) (need : Int) :
    Calls Try.prog 18 #[.pointer (some ⟨rb, 0, none⟩), vval v, .int .i64 need] w (CertPost w (certV M v N need) (certL M v N need) (certOk M v N need)) := by
  have HV := Lib.hid hv
  obtain ⟨u, hu⟩ : ∃ u, u = certV M v N need := ⟨_, rfl⟩
  obtain ⟨R, hR⟩ : ∃ R, R = certL M v N need := ⟨_, rfl⟩
  obtain ⟨ok, hk⟩ : ∃ ok, ok = certOk M v N need := ⟨_, rfl⟩
  rw [← hu, ← hR, ← hk]
  unfold certV at hu
  unfold certL at hR
  rw [← hk] at hu hR
  unfold certOk at hk
  have hsl := signsP_len M v N
  have hcall0 := fun w hb => rsigns_any w (h.below hb) hi hok hN v hv
  generalize signsP M v N = L at hcall0 hR hk hsl
  have HCALL := Lib.hid hcall0
  have HU := Lib.hid hu
  have HRR := Lib.hid hR
  have HOK := Lib.hid hk
  clear hcall0 hu hR hk h hi hok hv
  go_enter Try.func18, Try.ntmps18
  go_wp2_with (first | (refine wpList_box_big rfl 30 _ rfl (vcells v).toArray rfl ?_; intro vb w1 HVB hb1 hbl1 HS1) | (refine wpList_alloc_big rfl 39 rfl (ccells zeroV (.slice none 0 0)).toArray 37 (by kernel_rfl) ?_; intro cb w2 HCB hb2 hbl2 HS2) | (refine wpList_val rfl (load_vote HV.out (range_of_blk (hb1.below hbl2)) rfl rfl) ?_))
  have h1 := HVB.out
  have h2 := HCB.out
  have h3 := HS1.out
  have h4 := HS2.out
  have hbl := hbl1.trans (Below.up hbl2 hbl1.size)
  obtain ⟨n, hn⟩ : ∃ n, n = L.length := ⟨_, rfl⟩
  rw [← hn] at hsl
  have HN := Lib.hid hn
  have HB2 := Lib.hid hb2
  have HB1 := Lib.hid (hb1.below hbl2)
  have HBL := Lib.hid hbl
  have hvc : vb < cb ∧ cb < w2.heap.size ∧ w.heap.size ≤ vb := by omega
  refine (HCALL.out w2 hbl).mono ?_
  rintro e w3 ⟨A, c, rfl, hc, hsr, hA, hAs, hbl3⟩
  rw [← hn] at hc ⊢
  have HB13 := Lib.hid (HB1.out.below hbl3)
  have HB23 := Lib.hid (HB2.out.below hbl3)
  have HBL3 := Lib.hid (HBL.out.trans (Below.up hbl3 HBL.out.size))
  have HSR := Lib.hid hsr
  have HAA := Lib.hid hA
  have HAS := Lib.hid hAs
  have h23 := hbl3.size
  clear hn hb1 hb2 hbl1 hbl2 hbl hbl3 hsr hA hAs HB1 HB2 HBL HVB HCB HS1 HS2 h1 h2 h3 h4
  by_cases hneed : need < 1
  · have hk : ok = false := by rw [HOK.out]; simp; omega
    have hu := HU.out
    have hR := HRR.out
    rw [hk] at hu hR
    simp only [Bool.false_eq_true, if_false] at hu hR
    subst hu hR hk
    go_wp2_with (first | (refine wpList_val rfl (exec_build0 _ rfl _ built_cert0) ?_) | (refine wpList_store_big rfl 39 _ _ rfl _ rfl (ccells zeroV (.slice none 0 0)) rfl _ _ HB23.out (sizeCert zeroV_ok _) (by rw [ccells_len zeroV_ok]; rfl) (ccells_one _ rfl) ?_; intro w4 hb4 hf4 HS4))
    refine bodyPost_ret (results_ct rfl rfl (var_cert zeroV_ok (range_of_blk hb4))) rfl ?_
    exact ⟨none, 0, rfl, SR.nil _ _, (fun a ha => (by cases ha)), below_fr HBL3.out hf4 (by omega)⟩
  · by_cases hlen : (n : Int) < need
    · have hk : ok = false := by rw [HOK.out, ← HN.out]; simp; omega
      have hu := HU.out
      have hR := HRR.out
      rw [hk] at hu hR
      simp only [Bool.false_eq_true, if_false] at hu hR
      subst hu hR hk
      go_wp2_with (first | (refine wpList_val rfl (exec_build0 _ rfl _ built_cert0) ?_) | (refine wpList_store_big rfl 39 _ _ rfl _ rfl (ccells zeroV (.slice none 0 0)) rfl _ _ HB23.out (sizeCert zeroV_ok _) (by rw [ccells_len zeroV_ok]; rfl) (ccells_one _ rfl) ?_; intro w4 hb4 hf4 HS4))
      refine bodyPost_ret (results_ct rfl rfl (var_cert zeroV_ok (range_of_blk hb4))) rfl ?_
      exact ⟨none, 0, rfl, SR.nil _ _, (fun a ha => (by cases ha)), below_fr HBL3.out hf4 (by omega)⟩
    · have hk : ok = true := by rw [HOK.out, ← HN.out]; simp; omega
      have hu := HU.out
      have hR := HRR.out
      rw [hk] at hu hR
      simp only [if_true] at hu hR
      subst hu hR hk
      obtain ⟨nn, rfl⟩ : ∃ nn : Nat, need = (nn : Int) := ⟨need.toNat, by omega⟩
      obtain ⟨⟨b5, off5, f5⟩, rfl⟩ : ∃ a, A = some a := HAS.out.elim (fun e => by have := HN.out; rw [e] at this; simp at this; omega) id
      obtain rfl : f5 = none := by
        obtain ⟨s, hs⟩ : ∃ s, L[0]? = some s := ⟨_, List.getElem?_eq_getElem (by have := HN.out; omega)⟩
        obtain ⟨b', o', e', _⟩ := HSR.out 0 s hs
        cases e'; rfl
      have hn1 : 1 ≤ nn ∧ nn ≤ n ∧ nn ≤ c := by omega
      go_wp2_with fail
      have hd := (Below.refl w3.heap.size w3).drew
      refine wp_region_phased (fun W => W.rangeAt vb 0 (vcells u) ∧ True) 7 (by kernel_rfl) ⟨range_below (range_of_blk HB13.out) hd, trivial⟩ (fun hS => ?_)
      refine wpAnyP_load (v := vval u) 0 (by kernel_rfl) (at_toArray rfl) (by kernel_rfl) (by kernel_rfl) (by kernel_rfl) (fun _ _ _ h => h) (by first | assumption | rfl) (Or.inl ⟨by rfl, fun W hS => (by obtain ⟨s1, _⟩ := hS; exact load_vote HV.out s1 rfl rfl)⟩) ?_
      simp only [Act.put, List.setIfInBounds_toArray, List.set_cons_zero, List.set_cons_succ]
      refine wpAnyP_pure (v := ?_) 1 (at_toArray rfl) (by kernel_rfl) (by kernel_rfl) (by kernel_rfl) (fun _ _ _ h => h) (Or.inl ⟨by rfl, fun W => ?_⟩) ?_
      rotate_left 1
      · (go_simp <;> (try go_bits) <;> with_reducible rfl)
      simp only [Act.put, List.setIfInBounds_toArray, List.set_cons_zero, List.set_cons_succ]
      refine wpAnyP_pure (v := ?_) 2 (at_toArray rfl) (by kernel_rfl) (by kernel_rfl) (by kernel_rfl) (fun _ _ _ h => h) (Or.inl ⟨by rfl, fun W => ?_⟩) ?_
      rotate_left 1
      · (go_simp <;> (try go_bits) <;> with_reducible rfl)
      simp only [Act.put, List.setIfInBounds_toArray, List.set_cons_zero, List.set_cons_succ]
      refine wpAnyP_pure (v := ?_) 3 (at_toArray rfl) (by kernel_rfl) (by kernel_rfl) (by kernel_rfl) (fun _ _ _ h => h) (Or.inl ⟨by rfl, fun W => ?_⟩) ?_
      rotate_left 1
      · (go_simp <;> (try go_bits) <;> with_reducible rfl)
      simp only [Act.put, List.setIfInBounds_toArray, List.set_cons_zero, List.set_cons_succ]
      refine wpAnyP_load (v := .agg (ccells u (.slice (some ⟨b5, off5, none⟩) nn c)).toArray) 4 (by kernel_rfl) (at_toArray rfl) (by kernel_rfl) (by kernel_rfl) (by kernel_rfl) (fun _ _ _ h => h) (by first | assumption | rfl) (Or.inl ⟨by rfl, fun W hS => (by obtain ⟨s1, _⟩ := hS; exact exec_build2 _ _ _ _ _ _ _ rfl rfl rfl _ (built_cert2 HV.out _ _ _))⟩) ?_
      simp only [Act.put, List.setIfInBounds_toArray, List.set_cons_zero, List.set_cons_succ]
      refine wpAnyP_one 5 (at_toArray rfl) (by kernel_rfl) rfl (fun K hK => ?_)
      refine wp_store_big 39 _ _ rfl _ rfl (ccells u (.slice (some ⟨b5, off5, none⟩) nn c)) rfl _ _ (HB23.out.drew) (sizeCert HV.out _) (by rw [ccells_len HV.out]; rfl) (ccells_one _ rfl) fun w4 hb4 hf4 HS4 => ?_
      refine hK.out _ _ (fun _ _ => ⟨range_fr hS.1 hf4 (by omega), trivial⟩) ?_
      clear hK
      refine wpAnyP_pure (v := ?_) 6 (at_toArray rfl) (by kernel_rfl) (by kernel_rfl) (by kernel_rfl) (fun _ _ _ h => h) (Or.inl ⟨by rfl, fun W => ?_⟩) ?_
      rotate_left 1
      · (go_simp <;> (try go_bits) <;> with_reducible rfl)
      simp only [Act.put, List.setIfInBounds_toArray, List.set_cons_zero, List.set_cons_succ]
      refine wpAnyP_done (by kernel_rfl) ?_ _
      go_wp2_with fail
      refine bodyPost_ret (results_ct rfl rfl (var_cert HV.out (range_of_blk hb4))) rfl ?_
      have hll : ((L.take (nn : Int).toNat)).length = nn := by rw [List.length_take, ← HN.out]; omega
      refine ⟨some ⟨b5, off5, none⟩, c, by rw [hll]; rfl, ?_, ?_, below_fr (HBL3.out.trans (Below.up hd HBL3.out.size)) hf4 (by omega)⟩
      · refine SR.take (fun i s hs => ?_) _
        obtain ⟨b, off, e, hr⟩ := HSR.out i s hs
        have hle := HAA.out _ e (by have := (List.getElem?_eq_some_iff.1 hs).1; omega)
        exact ⟨b, off, e, range_fr (range_below hr hd) hf4 (by simp only at hle; omega)⟩
      · intro a ha _
        have := HAA.out a ha (by have := HN.out; omega)
        omega

end Go.Proofs.Ytpbcpocheblbfaa
