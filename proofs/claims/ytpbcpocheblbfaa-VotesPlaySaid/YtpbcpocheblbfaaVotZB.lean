/- Two certs that are the same. -/
import Derived.Test.YtpbcpocheblbfaaVotZA
namespace Go.Proofs.Ytpbcpocheblbfaa
set_option linter.unusedVariables false
set_option linter.unusedSimpArgs false
open Go.RowKit Go.MapKept

def SgNum (L : List Sg) : Prop := ∀ s ∈ L, I64 s.1
set_option maxRecDepth 100000 in
set_option maxHeartbeats 4000000 in
theorem same_yes (w : World) {A A2 : Option Addr} {L : List Sg} (c c2 : Nat) (h1 : SR w A L) (h2 : SR w A2 L) (hok : SgOk L) (hnum : SgNum L) (hl : L.length ≤ 1000) :
    Calls Try.prog 28 #[.slice A L.length c, .slice A2 L.length c2] w fun e w' => e = .returned (.bool true) ∧ Below w.heap.size w w' := by
  obtain ⟨n, hn⟩ : ∃ n, n = L.length := ⟨_, rfl⟩
  rw [← hn]
  rw [← hn] at hl
  have HN := Lib.hid hn
  have H1 := Lib.hid h1
  have H2 := Lib.hid h2
  have HOK := Lib.hid hok
  have HNUM := Lib.hid hnum
  have HBL := Lib.hid (Below.refl w.heap.size w)
  clear hn h1 h2 hok hnum
  go_enter Try.func28, Try.ntmps28
  go_wp2_with fail
  go_loopw [5] (fun iv wr => ∃ k : Nat, k ≤ n ∧ iv = .int .i64 (k : Int) ∧ Hid (Below w.heap.size w wr)) (fun iv _ => n - (intOf iv).toNat)
  case atStart => exact ⟨0, Nat.zero_le _, rfl, HBL⟩
  case round =>
    clear HBL
    obtain ⟨k, hk, rfl, HBL⟩ := hrel
    by_cases hlt : k < n
    · obtain ⟨s, hs⟩ : ∃ s, L[k]? = some s := ⟨_, List.getElem?_eq_getElem (by rw [← HN.out]; exact hlt)⟩
      obtain ⟨b1, o1, hA, hr1⟩ := H1.out k s hs
      obtain ⟨b2, o2, hA2, hr2⟩ := H2.out k s hs
      subst hA hA2
      have HS := Lib.hid (show s.2.length = 16 ∧ I64 s.1 from ⟨HOK.out s (List.mem_of_getElem? hs), HNUM.out s (List.mem_of_getElem? hs)⟩)
      obtain ⟨sn, st⟩ := s
      have hd := (Below.refl wr.heap.size wr).drew
      have HR := Lib.hid (show wr.drew.rangeAt b1 (o1 + k * 17) (scells sn st) ∧ wr.drew.rangeAt b2 (o2 + k * 17) (scells sn st) from ⟨range_below (range_below hr1 HBL.out) hd, range_below (range_below hr2 HBL.out) hd⟩)
      have HBL2 := Lib.hid (HBL.out.trans (Below.up hd HBL.out.size))
      have l1 : (k : Int) < (n : Int) := by omega
      clear hs hr1 hr2 hd
      go_wp2_with fail
      refine wp_region_phased (fun W => W.rangeAt b1 (o1 + k * 17) (scells sn st) ∧ W.rangeAt b2 (o2 + k * 17) (scells sn st)) 9 (by kernel_rfl) HR.out (fun hS => ?_)
      refine wpAnyP_pure (v := ?_) 0 (at_toArray rfl) (by kernel_rfl) (by kernel_rfl) (by kernel_rfl) (fun _ _ _ h => h) (Or.inl ⟨by rfl, fun W => ?_⟩) ?_
      rotate_left 1
      · (go_simp <;> (try go_bits) <;> with_reducible rfl)
      simp only [Act.put, List.setIfInBounds_toArray, List.set_cons_zero, List.set_cons_succ]
      refine wpAnyP_pure (v := ?_) 1 (at_toArray rfl) (by kernel_rfl) (by kernel_rfl) (by kernel_rfl) (fun _ _ _ h => h) (Or.inl ⟨by rfl, fun W => ?_⟩) ?_
      rotate_left 1
      · (go_simp <;> (try go_bits) <;> with_reducible rfl)
      simp only [Act.put, List.setIfInBounds_toArray, List.set_cons_zero, List.set_cons_succ]
      refine wpAnyP_pure (v := ?_) 2 (at_toArray rfl) (by kernel_rfl) (by kernel_rfl) (by kernel_rfl) (fun _ _ _ h => h) (Or.inl ⟨by rfl, fun W => ?_⟩) ?_
      rotate_left 1
      · (go_simp <;> (try go_bits) <;> with_reducible rfl)
      simp only [Act.put, List.setIfInBounds_toArray, List.set_cons_zero, List.set_cons_succ]
      refine wpAnyP_load (v := sval sn st) 3 (by kernel_rfl) (at_toArray rfl) (by kernel_rfl) (by kernel_rfl) (by kernel_rfl) (fun _ _ _ h => h) (by first | assumption | rfl) (Or.inl ⟨by rfl, fun W hS => (by obtain ⟨s1, s2⟩ := hS; exact load_sign HS.out.1 s1 rfl rfl)⟩) ?_
      simp only [Act.put, List.setIfInBounds_toArray, List.set_cons_zero, List.set_cons_succ]
      refine wpAnyP_pure (v := ?_) 4 (at_toArray rfl) (by kernel_rfl) (by kernel_rfl) (by kernel_rfl) (fun _ _ _ h => h) (Or.inl ⟨by rfl, fun W => ?_⟩) ?_
      rotate_left 1
      · (go_simp <;> (try go_bits) <;> with_reducible rfl)
      simp only [Act.put, List.setIfInBounds_toArray, List.set_cons_zero, List.set_cons_succ]
      refine wpAnyP_pure (v := ?_) 5 (at_toArray rfl) (by kernel_rfl) (by kernel_rfl) (by kernel_rfl) (fun _ _ _ h => h) (Or.inl ⟨by rfl, fun W => ?_⟩) ?_
      rotate_left 1
      · (go_simp <;> (try go_bits) <;> with_reducible rfl)
      simp only [Act.put, List.setIfInBounds_toArray, List.set_cons_zero, List.set_cons_succ]
      refine wpAnyP_pure (v := ?_) 6 (at_toArray rfl) (by kernel_rfl) (by kernel_rfl) (by kernel_rfl) (fun _ _ _ h => h) (Or.inl ⟨by rfl, fun W => ?_⟩) ?_
      rotate_left 1
      · (go_simp <;> (try go_bits) <;> with_reducible rfl)
      simp only [Act.put, List.setIfInBounds_toArray, List.set_cons_zero, List.set_cons_succ]
      refine wpAnyP_load (v := sval sn st) 7 (by kernel_rfl) (at_toArray rfl) (by kernel_rfl) (by kernel_rfl) (by kernel_rfl) (fun _ _ _ h => h) (by first | assumption | rfl) (Or.inl ⟨by rfl, fun W hS => (by obtain ⟨s1, s2⟩ := hS; exact load_sign HS.out.1 s2 rfl rfl)⟩) ?_
      simp only [Act.put, List.setIfInBounds_toArray, List.set_cons_zero, List.set_cons_succ]
      refine wpAnyP_load (v := .bool false) 8 (by kernel_rfl) (at_toArray rfl) (by kernel_rfl) (by kernel_rfl) (by kernel_rfl) (fun _ _ _ h => h) (by first | assumption | rfl) (Or.inl ⟨by rfl, fun W hS => (by obtain ⟨s1, s2⟩ := hS; exact (by rw [sign_neq _ HS.out.2 HS.out.2 HS.out.1 HS.out.1 rfl rfl rfl]; simp))⟩) ?_
      simp only [Act.put, List.setIfInBounds_toArray, List.set_cons_zero, List.set_cons_succ]
      refine wpAnyP_done (by kernel_rfl) ?_ _
      clear hS HR HBL
      generalize wr.drew = w3 at *
      go_wp2_with fail
      try go_frame
      go_roundw
      case rel => exact ⟨k + 1, by omega, by go_num, HBL2⟩
      case measure => simp [intOf]; omega
    · have l1 : ¬ (k : Int) < (n : Int) := by omega
      go_wp2_with fail
      go_ret
      exact ⟨rfl, HBL.out⟩
set_option maxRecDepth 100000 in
set_option maxHeartbeats 4000000 in
theorem same_cert (w : World) {A A2 : Option Addr} {L : List Sg} (c c2 : Nat) (u : Vt) (hu : u.ok) (h1 : SR w A L) (h2 : SR w A2 L) (hok : SgOk L) (hnum : SgNum L) (hl : L.length ≤ 1000) :
    Calls Try.prog 19 #[cval u (.slice A L.length c), cval u (.slice A2 L.length c2)] w fun e w' => e = .returned (.bool true) ∧ Below w.heap.size w w' := by
  obtain ⟨n, hn⟩ : ∃ n, n = L.length := ⟨_, rfl⟩
  have HCALL := Lib.hid (show ∀ w', Below w.heap.size w w' → Calls Try.prog 28 #[.slice A L.length c, .slice A2 L.length c2] w' fun e w'' => e = .returned (.bool true) ∧ Below w'.heap.size w' w'' from fun w' hb => same_yes w' c c2 (h1.below hb) (h2.below hb) hok hnum hl)
  rw [← hn] at HCALL ⊢
  have HU := Lib.hid hu
  clear hn h1 h2 hok hnum hl hu
  go_enter Try.func19, Try.ntmps19
  go_wp2_with (first | (refine wpList_box_big rfl 39 _ rfl (ccells u (.slice A n c)).toArray rfl ?_; intro xb w1 HXB hb1 hbl1 HS1) | (refine wpList_box_big rfl 39 _ rfl (ccells u (.slice A2 n c2)).toArray rfl ?_; intro yb w2 HYB hb2 hbl2 HS2; have hx := hb1.below hbl2; have r1 := (range_part (range_of_blk hx)).1; have r2 := (range_part (range_of_blk hb2)).1; have q1 := ccell36 HU.out hx; have q2 := ccell36 HU.out hb2) | (refine wpList_val rfl (load_vote HU.out r1 rfl rfl) ?_) | (refine wpList_val rfl (load_vote HU.out r2 rfl rfl) ?_) | (refine wpList_val rfl (vote_eql _ HU.out HU.out rfl rfl rfl) ?_))
  have hbl := hbl1.trans (Below.up hbl2 hbl1.size)
  refine (HCALL.out w2 hbl).mono ?_
  rintro e w3 ⟨rfl, hbl3⟩
  go_wp2_with fail
  go_ret
  exact ⟨rfl, hbl.trans (Below.up hbl3 hbl.size)⟩

end Go.Proofs.Ytpbcpocheblbfaa
