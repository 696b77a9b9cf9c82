/- The document's book of votes: at, Of, signs, Count, Cert. -/
import Derived.Test.YtpbcpocheblbfaaVotU
import Derived.Test.YtpbcpocheblbfaaVotM
namespace Go.Proofs.Ytpbcpocheblbfaa
set_option linter.unusedVariables false
set_option linter.unusedSimpArgs false
open Go.RowKit Go.MapKept

def isAt (kind node : Int) (a : VAct) : Bool := decide (a.node = node) && decide (a.vote.kind = kind)
def atP (R : List VAct) (kind node : Int) : Int := match R.findIdx? (isAt kind node) with | some i => (i : Int) | none => -1
theorem atP_some {R : List VAct} {kind node : Int} {k : Nat} {a : VAct} (ha : R[k]? = some a) (h : isAt kind node a = true) (hb : ∀ i b, i < k → R[i]? = some b → isAt kind node b = false) : atP R kind node = k := by
  unfold atP
  rw [show R.findIdx? (isAt kind node) = some k from ?_]
  rw [List.findIdx?_eq_some_iff_getElem]
  obtain ⟨hk, he⟩ := List.getElem?_eq_some_iff.1 ha
  exact ⟨hk, by rw [he]; exact h, fun j hj => by
    have := hb j _ hj (List.getElem?_eq_getElem (by omega))
    simp [this]⟩
theorem atP_none {R : List VAct} {kind node : Int} (hb : ∀ i b, i < R.length → R[i]? = some b → isAt kind node b = false) : atP R kind node = -1 := by
  unfold atP
  rw [show R.findIdx? (isAt kind node) = none from ?_]
  rw [List.findIdx?_eq_none_iff]
  intro x hx
  obtain ⟨i, hi⟩ := List.getElem?_of_mem hx
  exact hb i x (List.getElem?_eq_some_iff.1 hi).1 hi
set_option maxRecDepth 100000 in
set_option maxHeartbeats 4000000 in
theorem at_any (w : World) {rb : Nat} {N : Int} {R : List VAct} (h : RefB w rb N R) (kind node : Int) :
    Calls Try.prog 26 #[.pointer (some ⟨rb, 0, none⟩), .int .i64 kind, .int .i64 node] w fun e w' => e = .returned (.int .i64 (atP R kind node)) ∧ w = w' := by
  obtain ⟨A, c, hb, hr⟩ := h.read
  have hsm := h.small
  obtain ⟨n, hn⟩ : ∃ n, n = R.length := ⟨_, rfl⟩
  rw [← hn] at hb hsm
  have HN := Lib.hid hn
  have HR := Lib.hid hr
  obtain ⟨r, hrr⟩ : ∃ r, r = atP R kind node := ⟨_, rfl⟩
  rw [← hrr]
  have HRR := Lib.hid hrr
  have c1 : w.cell? ⟨rb, 1, none⟩ = some (.slice A n c) := hb.cell 1
  clear h hb hr hn hrr
  go_enter Try.func26, Try.ntmps26
  go_wp2_with fail
  go_loopw [7] (fun iv wr => ∃ k : Nat, k ≤ n ∧ iv = .int .i64 (k : Int) ∧ wr = w ∧ Hid (∀ i b, i < k → R[i]? = some b → isAt kind node b = false)) (fun iv _ => n - (intOf iv).toNat)
  case atStart => exact ⟨0, Nat.zero_le _, rfl, rfl, Lib.hid (fun i b hi => by omega)⟩
  case round =>
    obtain ⟨k, hk, rfl, rfl, HB⟩ := hrel
    by_cases hlt : k < n
    · obtain ⟨a, ha⟩ : ∃ a, R[k]? = some a := ⟨_, List.getElem?_eq_getElem (by rw [← HN.out]; exact hlt)⟩
      obtain ⟨b, off, hAe, hc⟩ := HR.out k a ha
      subst hAe
      have hcn : wr.cell? ⟨b, off + k * 53, none⟩ = some (.int .i64 a.node) := hc 0 _ rfl
      have hck : wr.cell? ⟨b, off + k * 53 + 1, none⟩ = some (.int .i64 a.vote.kind) := hc 1 _ rfl
      have HC := Lib.hid ha
      have l1 : (k : Int) < (n : Int) := by omega
      clear hc ha
      by_cases h1 : a.node = node
      · by_cases h2 : a.vote.kind = kind
        · have hr : r = (k : Int) := by rw [HRR.out]; exact atP_some HC.out (by unfold isAt; simp [h1, h2]) HB.out
          subst h1
          subst h2
          go_wp2_with fail
          go_ret
          exact ⟨by first | (rw [hr]; rfl) | rfl, rfl⟩
        · have HX : Hid (∀ i b, i < k + 1 → R[i]? = some b → isAt kind node b = false) := Lib.hid fun i b hi hb => by
            by_cases hik : i < k
            · exact HB.out i b hik hb
            · have : i = k := by omega
              subst this
              rw [HC.out] at hb
              cases hb
              unfold isAt; simp [h2]
          subst h1
          go_wp2_with fail
          try go_frame
          go_roundw
          case rel => exact ⟨k + 1, by omega, by go_num, by trivial, HX⟩
          case measure => simp [intOf]; omega
      · have HX : Hid (∀ i b, i < k + 1 → R[i]? = some b → isAt kind node b = false) := Lib.hid fun i b hi hb => by
          by_cases hik : i < k
          · exact HB.out i b hik hb
          · have : i = k := by omega
            subst this
            rw [HC.out] at hb
            cases hb
            unfold isAt; simp [h1]
        go_wp2_with fail
        try go_frame
        go_roundw
        case rel => exact ⟨k + 1, by omega, by go_num, by trivial, HX⟩
        case measure => simp [intOf]; omega
    · have l1 : ¬ (k : Int) < (n : Int) := by omega
      have hr : r = -1 := by rw [HRR.out]; exact atP_none (fun i b hi => HB.out i b (by have := HN.out; omega))
      go_wp2_with fail
      go_ret
      exact ⟨by first | (rw [hr]; rfl) | rfl, rfl⟩

/-- The map's list, as the document keeps it. -/
def ones (M : List (Ent One)) : List VAct := M.map fun p => ⟨p.1.2, p.2.1, p.2.2⟩
theorem at_case (R : List VAct) (kind node : Int) : (atP R kind node = -1 ∧ R.find? (isAt kind node) = none) ∨ ∃ (k : Nat) (a : VAct), atP R kind node = (k : Int) ∧ R[k]? = some a ∧ R.find? (isAt kind node) = some a := by
  unfold atP
  cases h : R.findIdx? (isAt kind node) with
  | none =>
    refine .inl ⟨rfl, ?_⟩
    rw [List.findIdx?_eq_none_iff] at h
    rw [List.find?_eq_none]
    intro x hx
    simp [h x hx]
  | some k =>
    rw [List.findIdx?_eq_some_iff_getElem] at h
    obtain ⟨hk, h1, h2⟩ := h
    refine .inr ⟨k, R[k], rfl, List.getElem?_eq_getElem hk, ?_⟩
    rw [List.find?_eq_some_iff_getElem]
    exact ⟨h1, k, hk, rfl, fun j hj => by have := h2 j hj; simpa using this⟩
theorem look_ones {M : List (Ent One)} (h : ∀ p ∈ M, p.1.1 = p.2.1.kind) (kind node : Int) : lookM M (kind, node) = ((ones M).find? (isAt kind node)).map fun a => (a.vote, a.tag) := by
  induction M with
  | nil => rfl
  | cons p M ih =>
    have ih := ih (fun q hq => h q (List.mem_cons_of_mem _ hq))
    have hp := h p (List.mem_cons_self ..)
    obtain ⟨⟨k1, k2⟩, v, t⟩ := p
    simp only at hp
    subst hp
    unfold lookM ones at ih ⊢
    rw [List.map_cons, List.find?_cons, List.find?_cons]
    by_cases hm : k2 = node ∧ v.kind = kind
    · obtain ⟨rfl, rfl⟩ := hm
      simp [isAt]
    · have h1 : (((v.kind, k2) : Int × Int) == (kind, node)) = false := by
        rw [beq_eq_false_iff_ne]
        intro e
        cases e
        exact hm ⟨rfl, rfl⟩
      have h2 : isAt kind node ⟨k2, v, t⟩ = false := by
        unfold isAt
        by_cases h3 : k2 = node
        · have : ¬ v.kind = kind := fun h4 => hm ⟨h3, h4⟩
          simp [this]
        · simp [h3]
      simp only [h1, h2]
      exact ih
theorem ones_ok {M : List (Ent One)} {N : Nat} (hi : Inv N M) (hN : N ≤ 64) (h : ∀ p ∈ M, p.2.ok) : OnOk (ones M) := fun a ha => by
  obtain ⟨p, hp, rfl⟩ := List.mem_map.1 ha
  have := hi.each p hp
  exact ⟨i64_of (by simp only; omega) (by simp only; omega), (h p hp).vote, (h p hp).tag⟩
set_option maxRecDepth 100000 in
set_option maxHeartbeats 8000000 in
theorem rof_any (w : World) {rb N : Nat} {M : List (Ent One)} (h : RefB w rb (N : Int) (ones M)) (hi : Inv N M) (kind node : Int) :
    Calls Try.prog 17 #[.pointer (some ⟨rb, 0, none⟩), .int .i64 kind, .int .i64 node] w fun e w' => e = .returned (.tuple #[vval (lookX M (kind, node)).1, tval (lookX M (kind, node)).2, .bool (lookM M (kind, node)).isSome]) ∧ Below w.heap.size w w' := by
  have hlk := look_ones (fun p hp => (hi.each p hp).1) kind node
  have H := Lib.hid h
  obtain ⟨X, hX⟩ : ∃ X, X = lookX M (kind, node) := ⟨_, rfl⟩
  obtain ⟨bs, hbs⟩ : ∃ bs, bs = (lookM M (kind, node)).isSome := ⟨_, rfl⟩
  rw [← hX, ← hbs]
  unfold lookX at hX
  rw [hlk] at hX hbs
  have HX := Lib.hid hX
  have HBS := Lib.hid hbs
  clear h hi hX hbs hlk
  go_enter Try.func17, Try.ntmps17
  go_wp2_with (first | (refine wpList_alloc_big rfl 30 rfl (vcells zeroV).toArray 36 (by kernel_rfl) ?_; intro vb w1 HVB hb1 hbl1 HS1) | (refine wpList_alloc_big rfl 32 rfl (bv zeroT).toArray 16 (by kernel_rfl) ?_; intro tb w2 HTB hb2 hbl2 HS2))
  have hvb := HVB.out
  have htb := HTB.out
  have hs1 := HS1.out
  have hs2 := HS2.out
  have hbl := hbl1.trans (Below.up hbl2 (by omega))
  have HH2 := Lib.hid (H.out.below hbl)
  have HB1 := Lib.hid (hb1.below hbl2)
  have HB2 := Lib.hid hb2
  have HBL := Lib.hid hbl
  have hvt : vb < tb ∧ tb < w2.heap.size ∧ w.heap.size ≤ vb := by omega
  have hrw : rb < w.heap.size := H.out.lt
  obtain ⟨A, c, hbk, hvr⟩ := H.out.read
  have HVR : Hid (VR w2 A (ones M) ∧ ∀ (i : Nat) (s : VAct), (ones M)[i]? = some s → ∀ b off, A = some ⟨b, off, none⟩ → b < w.heap.size) := Lib.hid ⟨hvr.below hbl, fun i s hs b off e => by
    obtain ⟨b', off', e', hr⟩ := hvr i s hs
    rw [e] at e'
    cases e'
    exact World.block_lt_of_cell? w _ (hr 0 _ rfl)⟩
  have HBK := Lib.hid (hbk.below hbl)
  clear hbk hvr
  clear hbl1 hbl2 hb1 hb2 hbl H hs1 hs2 hvb htb HS1 HS2 HVB HTB
  have hcall := at_any w2 HH2.out kind node
  have hcase := at_case (ones M) kind node
  generalize atP (ones M) kind node = k0 at hcall hcase
  refine hcall.mono ?_
  rintro e w' ⟨rfl, rfl⟩
  clear hcall
  rcases hcase with ⟨hk0, hnone⟩ | ⟨k, a, rfl, hka, hsome⟩
  · have l0 : k0 < 0 := by omega
    clear hk0
    have hx := HX.out
    have hb := HBS.out
    rw [hnone] at hx hb
    have hx : X = zeroX := hx
    have hb : bs = false := hb
    subst hx
    subst hb
    clear hnone hx hb HX HBS
    dsimp only
    go_wp2_with (first | (refine wpList_val rfl (exec_build0 _ rfl _ built_vote0') ?_) | (refine wpList_val rfl (exec_build0 _ rfl _ built_tag0') ?_) | (refine wpList_store_big rfl 30 _ _ rfl _ rfl (vcells zeroV) rfl _ _ HB1.out (sizeVote zeroV_ok) (by rw [vcells_len zeroV_ok]; rfl) (vcells_one _) ?_; intro w3 hb3 hf3 HS3) | (refine wpList_store_big rfl 32 _ _ rfl _ rfl (bv zeroT) rfl _ _ (HB2.out.fr hf3 (by omega)) (sizeTag zeroT_16) (by rw [bv_length, zeroT_16]; rfl) (bv_one' _) ?_; intro w4 hb4 hf4 HS4))
    refine bodyPost_ret (results_cct rfl rfl (var_vote zeroV_ok (range_of_blk (hb3.fr hf4 (by omega)))) rfl (var_tag zeroT_16 (range_of_blk hb4))) rfl ?_
    exact ⟨rfl, below_fr (below_fr HBL.out hf3 (by omega)) hf4 (by omega)⟩
  · have hx := HX.out
    have hb := HBS.out
    rw [hsome] at hx hb
    have hx : X = (a.vote, a.tag) := hx
    have hb : bs = true := hb
    subst hx
    subst hb
    have hok := HH2.out.ok a (List.mem_of_getElem? hka)
    obtain ⟨b5, off, hAe, hc⟩ := HVR.out.1 k a hka
    have hb5 := HVR.out.2 k a hka b5 off hAe
    subst hAe
    have hkl := (List.getElem?_eq_some_iff.1 hka).1
    have HO := Lib.hid hok
    have c1 : w2.cell? ⟨rb, 1, none⟩ = some (.slice (some ⟨b5, off, none⟩) (ones M).length c) := HBK.out.cell 1
    have r1 := act_vote hc
    have r2 := act_tag hok hc
    have hsm : (ones M).length ≤ 1000 := HH2.out.small
    clear HVR HBK
    generalize (ones M).length = n at c1 hkl hsm
    clear hsome hok hc hka hx hb HX HBS
    have l1 : (k : Int) < (n : Int) := by omega
    go_wp2_with fail
    have hd := (Below.refl w2.heap.size w2).drew
    refine wp_region_phased (fun W => W.cell? ⟨rb, 1, none⟩ = some (.slice (some ⟨b5, off, none⟩) n c) ∧ W.rangeAt b5 (off + k * 53 + 1) (vcells a.vote) ∧ W.rangeAt b5 (off + k * 53 + 37) (bv a.tag)) 19 (by kernel_rfl) ⟨cell_bl c1 hd, range_below r1 hd, range_below r2 hd⟩ (fun hS => ?_)
    refine wpAnyP_pure (v := ?_) 0 (at_toArray rfl) (by kernel_rfl) (by kernel_rfl) (by kernel_rfl) (fun _ _ _ h => h) (Or.inl ⟨by rfl, fun W => ?_⟩) ?_
    rotate_left 1
    · (go_simp <;> (try go_bits) <;> with_reducible rfl)
    simp only [Act.put, List.setIfInBounds_toArray, List.set_cons_zero, List.set_cons_succ]
    refine wpAnyP_pure (v := ?_) 1 (at_toArray rfl) (by kernel_rfl) (by kernel_rfl) (by kernel_rfl) (fun _ _ _ h => h) (Or.inl ⟨by rfl, fun W => ?_⟩) ?_
    rotate_left 1
    · (go_simp <;> (try go_bits) <;> with_reducible rfl)
    simp only [Act.put, List.setIfInBounds_toArray, List.set_cons_zero, List.set_cons_succ]
    refine wpAnyP_pure (v := ?_) 2 (at_toArray rfl) (by kernel_rfl) (by kernel_rfl) (by kernel_rfl) (fun _ _ _ h => h) (Or.inl ⟨by rfl, fun W => ?_⟩) ?_
    rotate_left 1
    · (go_simp <;> (try go_bits) <;> with_reducible rfl)
    simp only [Act.put, List.setIfInBounds_toArray, List.set_cons_zero, List.set_cons_succ]
    refine wpAnyP_load (v := ?_) 3 (by kernel_rfl) (at_toArray rfl) (by kernel_rfl) (by kernel_rfl) (by kernel_rfl) (fun _ _ _ h => h) (by first | assumption | rfl) (Or.inl ⟨by rfl, fun W hS => ?_⟩) ?_
    rotate_left 1
    · (obtain ⟨s1, s2, s3⟩ := hS; go_simp <;> (try go_bits) <;> with_reducible rfl)
    simp only [Act.put, List.setIfInBounds_toArray, List.set_cons_zero, List.set_cons_succ]
    refine wpAnyP_pure (v := ?_) 4 (at_toArray rfl) (by kernel_rfl) (by kernel_rfl) (by kernel_rfl) (fun _ _ _ h => h) (Or.inl ⟨by rfl, fun W => ?_⟩) ?_
    rotate_left 1
    · (go_simp <;> (try go_bits) <;> with_reducible rfl)
    simp only [Act.put, List.setIfInBounds_toArray, List.set_cons_zero, List.set_cons_succ]
    refine wpAnyP_pure (v := ?_) 5 (at_toArray rfl) (by kernel_rfl) (by kernel_rfl) (by kernel_rfl) (fun _ _ _ h => h) (Or.inl ⟨by rfl, fun W => ?_⟩) ?_
    rotate_left 1
    · (go_simp <;> (try go_bits) <;> with_reducible rfl)
    simp only [Act.put, List.setIfInBounds_toArray, List.set_cons_zero, List.set_cons_succ]
    refine wpAnyP_pure (v := ?_) 6 (at_toArray rfl) (by kernel_rfl) (by kernel_rfl) (by kernel_rfl) (fun _ _ _ h => h) (Or.inl ⟨by rfl, fun W => ?_⟩) ?_
    rotate_left 1
    · (go_simp <;> (try go_bits) <;> with_reducible rfl)
    simp only [Act.put, List.setIfInBounds_toArray, List.set_cons_zero, List.set_cons_succ]
    refine wpAnyP_load (v := vval a.vote) 7 (by kernel_rfl) (at_toArray rfl) (by kernel_rfl) (by kernel_rfl) (by kernel_rfl) (fun _ _ _ h => h) (by first | assumption | rfl) (Or.inl ⟨by rfl, fun W hS => (by obtain ⟨s1, s2, s3⟩ := hS; exact load_vote HO.out.vote s2 rfl rfl)⟩) ?_
    simp only [Act.put, List.setIfInBounds_toArray, List.set_cons_zero, List.set_cons_succ]
    refine wpAnyP_pure (v := ?_) 8 (at_toArray rfl) (by kernel_rfl) (by kernel_rfl) (by kernel_rfl) (fun _ _ _ h => h) (Or.inl ⟨by rfl, fun W => ?_⟩) ?_
    rotate_left 1
    · (go_simp <;> (try go_bits) <;> with_reducible rfl)
    simp only [Act.put, List.setIfInBounds_toArray, List.set_cons_zero, List.set_cons_succ]
    refine wpAnyP_pure (v := ?_) 9 (at_toArray rfl) (by kernel_rfl) (by kernel_rfl) (by kernel_rfl) (fun _ _ _ h => h) (Or.inl ⟨by rfl, fun W => ?_⟩) ?_
    rotate_left 1
    · (go_simp <;> (try go_bits) <;> with_reducible rfl)
    simp only [Act.put, List.setIfInBounds_toArray, List.set_cons_zero, List.set_cons_succ]
    refine wpAnyP_pure (v := ?_) 10 (at_toArray rfl) (by kernel_rfl) (by kernel_rfl) (by kernel_rfl) (fun _ _ _ h => h) (Or.inl ⟨by rfl, fun W => ?_⟩) ?_
    rotate_left 1
    · (go_simp <;> (try go_bits) <;> with_reducible rfl)
    simp only [Act.put, List.setIfInBounds_toArray, List.set_cons_zero, List.set_cons_succ]
    refine wpAnyP_load (v := ?_) 11 (by kernel_rfl) (at_toArray rfl) (by kernel_rfl) (by kernel_rfl) (by kernel_rfl) (fun _ _ _ h => h) (by first | assumption | rfl) (Or.inl ⟨by rfl, fun W hS => ?_⟩) ?_
    rotate_left 1
    · (obtain ⟨s1, s2, s3⟩ := hS; go_simp <;> (try go_bits) <;> with_reducible rfl)
    simp only [Act.put, List.setIfInBounds_toArray, List.set_cons_zero, List.set_cons_succ]
    refine wpAnyP_pure (v := ?_) 12 (at_toArray rfl) (by kernel_rfl) (by kernel_rfl) (by kernel_rfl) (fun _ _ _ h => h) (Or.inl ⟨by rfl, fun W => ?_⟩) ?_
    rotate_left 1
    · (go_simp <;> (try go_bits) <;> with_reducible rfl)
    simp only [Act.put, List.setIfInBounds_toArray, List.set_cons_zero, List.set_cons_succ]
    refine wpAnyP_pure (v := ?_) 13 (at_toArray rfl) (by kernel_rfl) (by kernel_rfl) (by kernel_rfl) (fun _ _ _ h => h) (Or.inl ⟨by rfl, fun W => ?_⟩) ?_
    rotate_left 1
    · (go_simp <;> (try go_bits) <;> with_reducible rfl)
    simp only [Act.put, List.setIfInBounds_toArray, List.set_cons_zero, List.set_cons_succ]
    refine wpAnyP_pure (v := ?_) 14 (at_toArray rfl) (by kernel_rfl) (by kernel_rfl) (by kernel_rfl) (fun _ _ _ h => h) (Or.inl ⟨by rfl, fun W => ?_⟩) ?_
    rotate_left 1
    · (go_simp <;> (try go_bits) <;> with_reducible rfl)
    simp only [Act.put, List.setIfInBounds_toArray, List.set_cons_zero, List.set_cons_succ]
    refine wpAnyP_load (v := tval a.tag) 15 (by kernel_rfl) (at_toArray rfl) (by kernel_rfl) (by kernel_rfl) (by kernel_rfl) (fun _ _ _ h => h) (by first | assumption | rfl) (Or.inl ⟨by rfl, fun W hS => (by obtain ⟨s1, s2, s3⟩ := hS; exact load_tag HO.out.tag s3 rfl rfl)⟩) ?_
    simp only [Act.put, List.setIfInBounds_toArray, List.set_cons_zero, List.set_cons_succ]
    refine wpAnyP_one 16 (at_toArray rfl) (by kernel_rfl) rfl (fun K hK => ?_)
    refine wp_store_big 30 _ _ rfl _ rfl (vcells a.vote) rfl _ _ (HB1.out.drew) (sizeVote HO.out.vote) (by rw [vcells_len HO.out.vote]; rfl) (vcells_one _) fun w5 hb6 hf5 HS5 => ?_
    have hS5 : w5.cell? ⟨rb, 1, none⟩ = some (.slice (some ⟨b5, off, none⟩) n c) ∧ w5.rangeAt b5 (off + k * 53 + 1) (vcells a.vote) ∧ w5.rangeAt b5 (off + k * 53 + 37) (bv a.tag) := ⟨by have := hS.1; rw [← this]; exact World.cell?_of_block (a := ⟨rb, 1, none⟩) (hf5.block rb (World.block_lt_of_cell? _ _ this) (by omega)), range_fr hS.2.1 hf5 (by omega), range_fr hS.2.2 hf5 (by omega)⟩
    refine hK.out _ _ (fun _ _ => hS5) ?_
    clear hK hS
    refine wpAnyP_one 17 (at_toArray rfl) (by kernel_rfl) rfl (fun K hK => ?_)
    refine wp_store_big 32 _ _ rfl _ rfl (bv a.tag) rfl _ _ (HB2.out.drew.fr hf5 (by omega)) (sizeTag HO.out.tag) (by rw [bv_length, HO.out.tag]; rfl) (bv_one' _) fun w6 hb7 hf6 HS6 => ?_
    refine hK.out _ _ (fun _ _ => ⟨by have := hS5.1; rw [← this]; exact World.cell?_of_block (a := ⟨rb, 1, none⟩) (hf6.block rb (World.block_lt_of_cell? _ _ this) (by omega)), range_fr hS5.2.1 hf6 (by omega), range_fr hS5.2.2 hf6 (by omega)⟩) ?_
    clear hK
    refine wpAnyP_pure (v := ?_) 18 (at_toArray rfl) (by kernel_rfl) (by kernel_rfl) (by kernel_rfl) (fun _ _ _ h => h) (Or.inl ⟨by rfl, fun W => ?_⟩) ?_
    rotate_left 1
    · (go_simp <;> (try go_bits) <;> with_reducible rfl)
    simp only [Act.put, List.setIfInBounds_toArray, List.set_cons_zero, List.set_cons_succ]
    refine wpAnyP_done (by kernel_rfl) ?_ _
    go_wp2_with fail
    refine bodyPost_ret (results_cct rfl rfl (var_vote HO.out.vote (range_of_blk (hb6.fr hf6 (by omega)))) rfl (var_tag HO.out.tag (range_of_blk hb7))) rfl ?_
    exact ⟨rfl, below_fr (below_fr (HBL.out.trans (Below.up hd HBL.out.size)) hf5 (by omega)) hf6 (by omega)⟩

end Go.Proofs.Ytpbcpocheblbfaa
