/- The document's Add: put together. -/
import Derived.Test.YtpbcpocheblbfaaVotZFa
import Derived.Test.YtpbcpocheblbfaaVotZFb
namespace Go.Proofs.Ytpbcpocheblbfaa
set_option linter.unusedVariables false
set_option linter.unusedSimpArgs false
open Go.RowKit Go.MapKept

set_option maxRecDepth 100000 in
set_option maxHeartbeats 16000000 in
theorem radd_0 (w : World) {rb N : Nat} {M : List (Ent One)} (h : RefB w rb (N : Int) (ones M)) (hi : Inv N M) (hap : Apart M) (hok : ∀ p ∈ M, p.2.ok) (hN : N ≤ 64) (hsm : M.length < 1000) (node : Int) (v : Vt) (t : List UInt8) (hn : I64 node) (hv : v.ok) (ht : t.length = 16) (hkk : ¬ (v.kind = 1 ∨ v.kind = 2)) :
    Calls Try.prog 15 #[.pointer (some ⟨rb, 0, none⟩), .int .i64 node, vval v, tval t] w (RAddPost w rb N (addP (N : Int) M node v t)) := by
  have hput : OnOk (ones (putM M (v.kind, node) (v, t))) := fun a ha => by
    obtain ⟨p, hp, rfl⟩ := List.mem_map.1 ha
    rcases putM_mem hp with rfl | hp
    · exact ⟨hn, hv, ht⟩
    · have := hi.each p hp
      exact ⟨i64_of (by simp only; omega) (by simp only; omega), (hok p hp).vote, (hok p hp).tag⟩
  have hpl := putM_len M (v.kind, node) (v, t)
  have hps : (ones (putM M (v.kind, node) (v, t))).length ≤ 1000 := by unfold ones; rw [List.length_map]; omega
  have hlk := look_ones (fun p hp => (hi.each p hp).1) v.kind node
  have hcase := at_case (ones M) v.kind node
  have hnew := fun hl => ones_put_new (M := M) (k := (v.kind, node)) hl hap (v, t)
  have hold := fun i y hi => ones_put_old (M := M) (k := (v.kind, node)) (i := i) (y := y) hi hap (v, t)
  obtain ⟨r, hr⟩ : ∃ r, r = addP (N : Int) M node v t := ⟨_, rfl⟩
  rw [← hr]
  unfold addP at hr
  have HR := Lib.hid hr
  have H := Lib.hid h
  have HNV := Lib.hid (show VAct.ok ⟨node, v, t⟩ from ⟨hn, hv, ht⟩)
  have HPUT := Lib.hid hput
  have HPS := Lib.hid hps
  have HLK := Lib.hid hlk
  have HCASE := Lib.hid hcase
  have HNEW := Lib.hid hnew
  have HOLD := Lib.hid hold
  have HINV := Lib.hid hi
  clear hr h hn hv ht hput hps hlk hcase hnew hold hpl hi hap hok hsm
  go_enter Try.func15, Try.ntmps15
  obtain ⟨kind, hkd⟩ : ∃ kind, kind = v.kind := ⟨_, rfl⟩
  have HKD := Lib.hid hkd
  have HKK : Hid (¬ (kind = 1 ∨ kind = 2)) := Lib.hid (by rw [hkd]; exact hkk)
  clear hkd hkk
  by_cases h1 : node < 0
  · have hr := HR.out
    rw [if_pos (.inl h1)] at hr
    subst hr
    go_wp2_with (first | ((with_reducible show wpList _ _ _ (⟨some 6, _, _, _, _, _⟩ :: _) _ _); refine wpList_box_big rfl 30 _ rfl (vcells v).toArray rfl ?_; intro vb w1 HVB hb1 hbl1 HS1) | ((with_reducible show wpList _ _ _ (⟨some 7, _, _, _, _, _⟩ :: _) _ _); refine wpList_box_big rfl 32 _ rfl (bv t).toArray rfl ?_; intro tb w2 HTB hb2 hbl2 HS2; have hbl := hbl1.trans (Below.up hbl2 hbl1.size); have HH2 := Lib.hid (H.out.below hbl); obtain ⟨A0, c00, hbk0, _⟩ := HH2.out.read; have c0 : w2.cell? ⟨rb, 0, none⟩ = some (.int .i64 (N : Int)) := hbk0.cell 0; have k0 := (vote_cells (hb1.below hbl2)).1; rw [← HKD.out] at k0))
    go_ret
    exact ⟨rfl, HH2.out, Fr.of_below hbl⟩
  · by_cases h2 : (N : Int) ≤ node
    · have hr := HR.out
      rw [if_pos (.inr h2)] at hr
      subst hr
      go_wp2_with (first | ((with_reducible show wpList _ _ _ (⟨some 6, _, _, _, _, _⟩ :: _) _ _); refine wpList_box_big rfl 30 _ rfl (vcells v).toArray rfl ?_; intro vb w1 HVB hb1 hbl1 HS1) | ((with_reducible show wpList _ _ _ (⟨some 7, _, _, _, _, _⟩ :: _) _ _); refine wpList_box_big rfl 32 _ rfl (bv t).toArray rfl ?_; intro tb w2 HTB hb2 hbl2 HS2; have hbl := hbl1.trans (Below.up hbl2 hbl1.size); have HH2 := Lib.hid (H.out.below hbl); obtain ⟨A0, c00, hbk0, _⟩ := HH2.out.read; have c0 : w2.cell? ⟨rb, 0, none⟩ = some (.int .i64 (N : Int)) := hbk0.cell 0; have k0 := (vote_cells (hb1.below hbl2)).1; rw [← HKD.out] at k0))
      go_ret
      exact ⟨rfl, HH2.out, Fr.of_below hbl⟩
    · have hr := HR.out
      rw [if_neg (by omega)] at hr
      have HR := Lib.hid hr
      clear hr
      have h3 : ¬ (kind = 1 ∨ kind = 2) := HKK.out
      have hr := HR.out
      rw [if_pos (by rw [← HKD.out]; omega)] at hr
      subst hr
      obtain ⟨h3a, h3b⟩ := not_or.1 h3
      have h3c : (kind != 1) = true := by simpa using h3a
      have h3d : (kind != 2) = true := by simpa using h3b
      clear h3 h3a h3b
      go_wp2_with (first | ((with_reducible show wpList _ _ _ (⟨some 6, _, _, _, _, _⟩ :: _) _ _); refine wpList_box_big rfl 30 _ rfl (vcells v).toArray rfl ?_; intro vb w1 HVB hb1 hbl1 HS1) | ((with_reducible show wpList _ _ _ (⟨some 7, _, _, _, _, _⟩ :: _) _ _); refine wpList_box_big rfl 32 _ rfl (bv t).toArray rfl ?_; intro tb w2 HTB hb2 hbl2 HS2; have hbl := hbl1.trans (Below.up hbl2 hbl1.size); have HH2 := Lib.hid (H.out.below hbl); obtain ⟨A0, c00, hbk0, _⟩ := HH2.out.read; have c0 : w2.cell? ⟨rb, 0, none⟩ = some (.int .i64 (N : Int)) := hbk0.cell 0; have k0 := (vote_cells (hb1.below hbl2)).1; rw [← HKD.out] at k0))
      go_ret
      exact ⟨rfl, HH2.out, Fr.of_below hbl⟩

theorem radd_any (w : World) {rb N : Nat} {M : List (Ent One)} (h : RefB w rb (N : Int) (ones M)) (hi : Inv N M) (hap : Apart M) (hok : ∀ p ∈ M, p.2.ok) (hN : N ≤ 64) (hsm : M.length < 1000) (node : Int) (v : Vt) (t : List UInt8) (hn : I64 node) (hv : v.ok) (ht : t.length = 16) :
    Calls Try.prog 15 #[.pointer (some ⟨rb, 0, none⟩), .int .i64 node, vval v, tval t] w (RAddPost w rb N (addP (N : Int) M node v t)) := by
  by_cases h1 : v.kind = 1
  · exact radd_1 w h hi hap hok hN hsm node v t hn hv ht h1
  · by_cases h2 : v.kind = 2
    · exact radd_2 w h hi hap hok hN hsm node v t hn hv ht h2
    · exact radd_0 w h hi hap hok hN hsm node v t hn hv ht (by omega)

end Go.Proofs.Ytpbcpocheblbfaa
