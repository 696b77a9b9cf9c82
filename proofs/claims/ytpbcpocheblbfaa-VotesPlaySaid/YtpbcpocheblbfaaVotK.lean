/- The chapter's example of votes: the walk. -/
import Derived.Test.YtpbcpocheblbfaaVotI
import Derived.Test.YtpbcpocheblbfaaVotE
namespace Go.Proofs.Ytpbcpocheblbfaa
set_option linter.unusedVariables false
set_option linter.unusedSimpArgs false
open Go.RowKit Go.MapKept

def V0 : Vt := ⟨1, 0, 0, 3, List.replicate 32 0⟩
def T2 : List UInt8 := 2 :: List.replicate 15 0
theorem V0_ok : V0.ok := ⟨by unfold I64; decide, by unfold I64; decide, by unfold I64; decide, by unfold I64; decide, by decide⟩
theorem T2_len : T2.length = 16 := by decide
theorem zeroT_len : zeroT.length = 16 := by decide
def M1 : List (Ent One) := [((1, 2), (V0, T2))]
def M2 : List (Ent One) := [((1, 2), (V0, T2)), ((1, 0), (V0, zeroT))]
def M3 : List (Ent One) := [((1, 2), (V0, T2)), ((1, 0), (V0, zeroT)), ((1, 3), (V0, zeroT))]
theorem live_a1 : addP 4 [] 2 V0 T2 = (0, M1) := by decide +kernel
theorem live_a2 : addP 4 M1 0 V0 zeroT = (0, M2) := by decide +kernel
theorem live_a3 : addP 4 M2 3 V0 zeroT = (0, M3) := by decide +kernel
theorem live_c : countM M3 V0 = 3 := by decide +kernel
theorem live_s : signsP M3 V0 4 = [(0, zeroT), (2, T2), (3, zeroT)] := by decide +kernel
theorem live_k : certOk M3 V0 4 3 = true := by unfold certOk; rw [live_s]; rfl
theorem live_l : certL M3 V0 4 3 = [(0, zeroT), (2, T2), (3, zeroT)] := by unfold certL; rw [live_k, live_s]; rfl
theorem live_v : certV M3 V0 4 3 = V0 := by unfold certV; rw [live_k]; rfl
theorem built_V0 : Try.prog.built 30 [(0, .int .i64 1), (3, .int .i64 3)] = some (vcells V0).toArray := by kernel_rfl
theorem built_T2 : Try.prog.built 32 [(0, .int .u8 2)] = some (bv T2).toArray := by kernel_rfl
theorem built_T0 : Try.prog.built 32 [] = some (bv zeroT).toArray := by kernel_rfl
theorem len_V0 : (vcells V0).length = 36 := vcells_len V0_ok

set_option maxRecDepth 100000 in
set_option maxHeartbeats 8000000 in
theorem lives_ok (w : World) : Calls Try.prog 8 #[] w fun e w' => e = .returned (.bool true) ∧ Below w.heap.size w w' := by
  go_enter Try.func8, Try.ntmps8
  go_wp2_with fail
  refine (vnew_ok 4 w rfl).mono ?_
  rintro e w1 ⟨bb, mb, rfl, HB0, hbb, hmb, hbl0⟩
  have HB := Lib.hid HB0
  have HBL := Lib.hid hbl0
  clear HB0 hbl0
  go_wp2_with (first | (refine wpList_val rfl (exec_build2 _ _ _ _ _ _ _ rfl rfl rfl _ built_V0) ?_) | (refine wpList_alloc_big rfl 30 rfl (vcells zeroV).toArray 36 (by kernel_rfl) ?_; intro vb w2 HVB hb2 hbl2 HS2) | (refine wpList_store_big rfl 30 _ _ rfl _ rfl (vcells V0) rfl _ _ hb2 (sizeVote V0_ok) (by rw [len_V0]; rfl) (vcells_one _) ?_; intro w3 hb3 hf3 HS3) | (refine wpList_valG rfl (load_vote V0_ok (range_of_blk hb3) rfl rfl) ?_) | (refine wpList_valG rfl (exec_build1 _ _ _ _ rfl rfl _ built_T2) ?_))
  have hvb := HVB.out
  have hs2 := HS2.out
  have hs3 := HS3.out
  have HB3 := Lib.hid ((HB.out.below hbl2).fr hf3 (by have := HB.out.blk.lt; omega) (by have := HB.out.map.lt; omega))
  have HBL3 := Lib.hid (below_fr (HBL.out.trans (Below.up hbl2 HBL.out.size)) hf3 (by have := HBL.out.size; omega))
  have HV3 := Lib.hid hb3
  have hvl : w.heap.size ≤ vb := by have := HBL.out.size; omega
  have hmv : mb < vb := by have := HB.out.map.lt; omega
  clear hb2 hb3 hf3 hbl2 hvb hs2 hs3 HVB HS2 HS3 HB HBL
  refine (add_any w3 HB3.out (by decide) 2 V0 T2 (by unfold I64; decide) V0_ok T2_len).mono ?_
  rintro e w4 ⟨rfl, hb4, hf4⟩
  rw [live_a1] at hb4
  rw [live_a1]
  have HB4 := Lib.hid hb4
  have HV4 := Lib.hid (HV3.out.fr hf4 (by omega))
  have HBL4 := Lib.hid (Fr.below HBL3.out hf4 (fun k hk => by omega))
  clear hb4 hf4 HB3 HV3 HBL3
  go_wp2_with (first | (refine wpList_valG rfl (load_vote V0_ok (range_of_blk HV4.out) rfl rfl) ?_) | (refine wpList_valG rfl (exec_build0 _ rfl _ built_T0) ?_))
  refine (add_any w4 HB4.out (by decide) 0 V0 zeroT (by unfold I64; decide) V0_ok zeroT_len).mono ?_
  rintro e w5 ⟨rfl, hb5, hf5⟩
  rw [live_a2] at hb5
  rw [live_a2]
  have HB5 := Lib.hid hb5
  have HV5 := Lib.hid (HV4.out.fr hf5 (by omega))
  have HBL5 := Lib.hid (Fr.below HBL4.out hf5 (fun k hk => by omega))
  clear hb5 hf5 HB4 HV4 HBL4
  go_wp2_with (first | (refine wpList_valG rfl (load_vote V0_ok (range_of_blk HV5.out) rfl rfl) ?_) | (refine wpList_valG rfl (exec_build0 _ rfl _ built_T0) ?_))
  refine (add_any w5 HB5.out (by decide) 3 V0 zeroT (by unfold I64; decide) V0_ok zeroT_len).mono ?_
  rintro e w6 ⟨rfl, hb6, hf6⟩
  rw [live_a3] at hb6
  rw [live_a3]
  have HB6 := Lib.hid hb6
  have HV6 := Lib.hid (HV5.out.fr hf6 (by omega))
  have HBL6 := Lib.hid (Fr.below HBL5.out hf6 (fun k hk => by omega))
  clear hb6 hf6 HB5 HV5 HBL5
  go_wp2_with (first | (refine wpList_valG rfl (load_vote V0_ok (range_of_blk HV6.out) rfl rfl) ?_))
  refine (count_any w6 HB6.out V0 V0_ok).mono ?_
  rintro e w7 ⟨rfl, hbl7⟩
  rw [live_c]
  have HB7 := Lib.hid (HB6.out.below hbl7)
  have HV7 := Lib.hid (HV6.out.below hbl7)
  have HBL7 := Lib.hid (HBL6.out.trans (Below.up hbl7 HBL6.out.size))
  clear hbl7 HB6 HV6 HBL6
  go_wp2_with (first | (refine wpList_val rfl (load_vote V0_ok (range_of_blk HV7.out) rfl rfl) ?_))
  refine (cert_any (N := 4) w7 HB7.out (by decide) V0 V0_ok 3).mono ?_
  rintro e w8 ⟨A, c, rfl, hsr, hA, hbl8⟩
  rw [live_k, live_l, live_v]
  rw [live_l] at hsr
  obtain ⟨ab, off, hAe, hr0⟩ := hsr 0 _ rfl
  obtain ⟨_, _, hAe1, hr1⟩ := hsr 1 _ rfl
  subst hAe
  simp only [Option.some.injEq, Addr.mk.injEq, and_true] at hAe1
  obtain ⟨rfl, rfl⟩ := hAe1
  have hal : ab < w8.heap.size := World.block_lt_of_cell? w8 _ (hr0 0 _ rfl)
  have HR0 := Lib.hid hr0
  have HR1 := Lib.hid hr1
  have HBL8 := Lib.hid (HBL7.out.trans (Below.up hbl8 HBL7.out.size))
  clear hsr hr0 hr1 hA hbl8 HB7 HV7 HBL7
  go_wp2_with (first | (refine wpList_alloc_big rfl 39 rfl (ccells zeroV (.slice none 0 0)).toArray 37 (by kernel_rfl) ?_; intro cb w9 HCB hb9 hbl9 HS9) | (refine wpList_store_big rfl 39 _ _ rfl _ rfl (ccells V0 (.slice (some ⟨ab, off, none⟩) _ c)) rfl _ _ hb9 (sizeCert V0_ok _) (by rw [ccells_len V0_ok]; rfl) (ccells_one _ rfl) ?_; intro w10 hb10 hf10 HS10; have c36 := ccell36 V0_ok hb10; have hcb := HCB.out; have hq1 := range_fr (range_below HR1.out hbl9) hf10 (by omega); have hq0 : w10.cell? ⟨ab, off, none⟩ = some (.int .i64 0) := by have h := range_fr (range_below HR0.out hbl9) hf10 (by omega); exact h 0 _ rfl) | (refine wpList_valG rfl (load_sign T2_len hq1 rfl rfl) ?_) | (refine wpList_valG rfl (exec_build1 _ _ _ _ rfl rfl _ built_T2) ?_) | (refine wpList_valG rfl (exec_build2 _ _ _ _ _ _ _ rfl rfl rfl _ (built_sign T2_len)) ?_) | (refine wpList_valG rfl (sign_eql _ (by unfold I64; decide) (by unfold I64; decide) T2_len T2_len rfl rfl rfl) ?_))
  go_ret
  exact ⟨rfl, below_fr (HBL8.out.trans (Below.up hbl9 HBL8.out.size)) hf10 (by have := HBL8.out.size; omega)⟩

end Go.Proofs.Ytpbcpocheblbfaa
