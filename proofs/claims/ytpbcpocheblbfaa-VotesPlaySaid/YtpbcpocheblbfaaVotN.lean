/- A book that no call made: what its methods answer. -/
import Derived.Test.YtpbcpocheblbfaaVotI
namespace Go.Proofs.Ytpbcpocheblbfaa
set_option linter.unusedVariables false
set_option linter.unusedSimpArgs false
open Go.RowKit Go.MapKept

section
variable {ops : Array Oper} {rest : List Oper} {o : Oper} {a : Act} {w : World} {K : Act → World → Prop} {Q : Exit → Act → World → Prop}
theorem wpList_box_one (hg : o.guard = none) (t : TypeId) (x : Operand) (ho : o.op = .box t x) (v : Value) (hx : a.eval x = v) (hv : v.cells = #[v])
    (h : ∀ b w', Hid (w.heap.size = b) → Blk w' b #[v] t → Below w.heap.size w w' → Hid (w'.heap.size = b + 1) → wpList Try.prog ops Q rest (a.put o.dst (.pointer (some ⟨b, 0, none⟩))) w') : wpList Try.prog ops Q (o :: rest) a w := by
  refine wpList_val hg (w' := w.alloc (.cells #[v] t)) ?_ (h _ _ (Lib.hid rfl) (Blk.new w _ t) ((Below.refl _ _).alloc (Nat.le_refl _) _) (Lib.hid (by simp)))
  unfold execOp
  simp only [ho, hx, Instr.box, newVar, newRow, Sem.run_bind, run_newObj_alloc, Sem.run_pure, Result.andThen_ok, hv]
theorem wpList_alloc_one (hg : o.guard = none) (t : TypeId) (ho : o.op = .alloc t) (z : Value) (hz : (Try.prog.info? t).map (fun i => (i.zero, i.size)) = some (some z, 1)) (hv : z.cells = #[z])
    (h : ∀ b w', Hid (w.heap.size = b) → Blk w' b #[z] t → Below w.heap.size w w' → Hid (w'.heap.size = b + 1) → wpList Try.prog ops Q rest (a.put o.dst (.pointer (some ⟨b, 0, none⟩))) w') : wpList Try.prog ops Q (o :: rest) a w := by
  refine wpList_val hg (w' := w.alloc (.cells #[z] t)) ?_ (h _ _ (Lib.hid rfl) (Blk.new w _ t) ((Below.refl _ _).alloc (Nat.le_refl _) _) (Lib.hid (by simp)))
  have hzero := (zero_of_info hz).1 w
  unfold execOp
  simp only [ho, Instr.alloc, Sem.run_bind, hzero, Result.andThen_ok, newVar, newRow, run_newObj_alloc, Sem.run_pure, hv]
end
theorem NoBook.below {w w' : World} {p : Option Addr} (h : NoBook w p) (hb : Below w.heap.size w w') : NoBook w' p := by
  rcases h with rfl | ⟨bb, rfl, c⟩
  · exact .inl rfl
  · exact .inr ⟨bb, rfl, (hb.cell (World.block_lt_of_cell? w _ c)).trans c⟩
theorem NoBook.fr {F : Nat → Prop} {w w' : World} {p : Option Addr} (h : NoBook w p) (hf : Fr F w w') (hn : ∀ b, F b → w.heap.size ≤ b) : NoBook w' p := by
  rcases h with rfl | ⟨bb, rfl, c⟩
  · exact .inl rfl
  · have hl := World.block_lt_of_cell? w _ c
    refine .inr ⟨bb, rfl, ?_⟩
    rw [← c]
    exact World.cell?_of_block (a := ⟨bb, 1, none⟩) (hf.block bb hl (fun h => by have := hn bb h; simp only at hl; omega))
theorem zeroT_16 : zeroT.length = 16 := by decide
theorem built_vote0' : Try.prog.built 30 [] = some (vcells zeroV).toArray := by kernel_rfl
theorem built_tag0' : Try.prog.built 32 [] = some (bv zeroT).toArray := by kernel_rfl
set_option maxRecDepth 100000 in
set_option maxHeartbeats 4000000 in
theorem of_no (p : Option Addr) (w : World) (h : NoBook w p) (kind node : Int) :
    Calls Try.prog 12 #[.pointer p, .int .i64 kind, .int .i64 node] w fun e w' => e = .returned (.tuple #[vval zeroV, tval zeroT, .bool false]) ∧ Below w.heap.size w w' := by
  go_enter Try.func12, Try.ntmps12
  go_wp2_with (first | (refine wpList_alloc_big rfl 30 rfl (vcells zeroV).toArray 36 (by kernel_rfl) ?_; intro vb w1 HVB hb1 hbl1 HS1) | (refine wpList_alloc_big rfl 32 rfl (bv zeroT).toArray 16 (by kernel_rfl) ?_; intro tb w2 HTB hb2 hbl2 HS2))
  have hvb := HVB.out
  have htb := HTB.out
  have hs1 := HS1.out
  have hs2 := HS2.out
  have hbl := hbl1.trans (Below.up hbl2 (by omega))
  refine (none_no p w2 (h.below hbl)).mono ?_
  rintro e w' ⟨rfl, rfl⟩
  go_wp2_with (first | (refine wpList_val rfl (exec_build0 _ rfl _ built_vote0') ?_) | (refine wpList_val rfl (exec_build0 _ rfl _ built_tag0') ?_) | (refine wpList_store_big rfl 30 _ _ rfl _ rfl (vcells zeroV) rfl _ _ (hb1.below hbl2) (sizeVote zeroV_ok) (by rw [vcells_len zeroV_ok]; rfl) (vcells_one _) ?_; intro w3 hb3 hf3 HS3) | (refine wpList_store_big rfl 32 _ _ rfl _ rfl (bv zeroT) rfl _ _ (hb2.fr hf3 (by omega)) (sizeTag zeroT_16) (by rw [bv_length, zeroT_16]; rfl) (bv_one' _) ?_; intro w4 hb4 hf4 HS4))
  refine bodyPost_ret (results_cct rfl rfl (var_vote zeroV_ok (range_of_blk (hb3.fr hf4 (by omega)))) rfl (var_tag zeroT_16 (range_of_blk hb4))) rfl ?_
  exact ⟨rfl, below_fr (below_fr hbl hf3 (by omega)) hf4 (by omega)⟩
set_option maxRecDepth 100000 in
set_option maxHeartbeats 4000000 in
theorem count_no (p : Option Addr) (w : World) (h : NoBook w p) (v : Vt) :
    Calls Try.prog 11 #[.pointer p, vval v] w fun e w' => e = .returned (.int .i64 0) ∧ Below w.heap.size w w' := by
  go_enter Try.func11, Try.ntmps11
  go_wp2_with (refine wpList_box_big rfl 30 _ rfl _ rfl ?_; intro vb w1 HVB hb1 hbl1 HS1)
  refine (none_no p w1 (h.below hbl1)).mono ?_
  rintro e w' ⟨rfl, rfl⟩
  go_wp2_with fail
  go_ret
  exact ⟨rfl, hbl1⟩
set_option maxRecDepth 100000 in
set_option maxHeartbeats 4000000 in
theorem cert_no (p : Option Addr) (w : World) (h : NoBook w p) (v : Vt) (need : Int) :
    Calls Try.prog 10 #[.pointer p, vval v, .int .i64 need] w fun e w' => e = .returned (.tuple #[cval zeroV (.slice none 0 0), .bool false]) ∧ Below w.heap.size w w' := by
  go_enter Try.func10, Try.ntmps10
  go_wp2_with (first | (refine wpList_box_big rfl 30 _ rfl _ rfl ?_; intro vb w1 HVB hb1 hbl1 HS1) | (refine wpList_alloc_big rfl 39 rfl (ccells zeroV (.slice none 0 0)).toArray 37 (by kernel_rfl) ?_; intro rb w2 HRB hb2 hbl2 HS2))
  have hvb := HVB.out
  have hrb := HRB.out
  have hs1 := HS1.out
  have hbl := hbl1.trans (Below.up hbl2 (by omega))
  refine (none_no p w2 (h.below hbl)).mono ?_
  rintro e w' ⟨rfl, rfl⟩
  go_wp2_with (first | (refine wpList_val rfl (exec_build0 _ rfl _ built_cert0) ?_) | (refine wpList_store_big rfl 39 _ _ rfl _ rfl (ccells zeroV (.slice none 0 0)) rfl _ _ hb2 (sizeCert zeroV_ok _) (by rw [ccells_len zeroV_ok]; rfl) (ccells_one _ rfl) ?_; intro w3 hb3 hf3 HS3))
  refine bodyPost_ret (results_ct rfl rfl (var_cert zeroV_ok (range_of_blk hb3))) rfl ?_
  exact ⟨rfl, below_fr hbl hf3 (by omega)⟩
set_option maxRecDepth 100000 in
set_option maxHeartbeats 4000000 in
theorem add_no (p : Option Addr) (w : World) (h : NoBook w p) (node : Int) (v : Vt) (t : List UInt8) :
    Calls Try.prog 9 #[.pointer p, .int .i64 node, vval v, tval t] w fun e w' => e = .returned (.int .i64 1) ∧ Below w.heap.size w w' := by
  go_enter Try.func9, Try.ntmps9
  go_wp2_with (first | (refine wpList_box_big rfl 30 _ rfl _ rfl ?_; intro vb w1 HVB hb1 hbl1 HS1) | (refine wpList_box_big rfl 32 _ rfl _ rfl ?_; intro tb w2 HTB hb2 hbl2 HS2))
  have hvb := HVB.out
  have hs1 := HS1.out
  have hbl := hbl1.trans (Below.up hbl2 (by omega))
  refine (none_no p w2 (h.below hbl)).mono ?_
  rintro e w' ⟨rfl, rfl⟩
  go_wp2_with fail
  go_ret
  exact ⟨rfl, hbl⟩
theorem cell_bl {w w' : World} {a : Addr} {v : Value} (h : w.cell? a = some v) (hb : Below w.heap.size w w') : w'.cell? a = some v := (hb.cell (World.block_lt_of_cell? w _ h)).trans h
set_option maxRecDepth 100000 in
set_option maxHeartbeats 4000000 in
theorem best_no (p : Option Addr) (w : World) (h : NoBook w p) (kind need : Int) :
    Calls Try.prog 13 #[.pointer p, .int .i64 kind, .int .i64 need] w fun e w' => e = .returned (.tuple #[cval zeroV (.slice none 0 0), .bool false]) ∧ Below w.heap.size w w' := by
  go_enter Try.func13, Try.ntmps13
  go_wp2_with (first | (refine wpList_box_one rfl 24 _ rfl _ rfl rfl ?_; intro b1 w1 HB1 hb1 hbl1 HS1) | (refine wpList_box_one rfl 3 _ rfl (.int .i64 kind) rfl rfl ?_; intro b2 w2 HB2 hb2 hbl2 HS2) | (refine wpList_box_one rfl 3 _ rfl (.int .i64 need) rfl rfl ?_; intro b3 w3 HB3 hb3 hbl3 HS3) | (refine wpList_alloc_big rfl 39 rfl (ccells zeroV (.slice none 0 0)).toArray 37 (by kernel_rfl) ?_; intro rb w4 HRB hb4 hbl4 HS4; have q1 : w4.cell? ⟨b1, 0, none⟩ = some (.pointer p) := (((hb1.below hbl2).below hbl3).below hbl4).cell 0))
  have h1 := HB1.out
  have h2 := HB2.out
  have h3 := HB3.out
  have h4 := HRB.out
  have s1 := HS1.out
  have s2 := HS2.out
  have s3 := HS3.out
  have hbl := hbl1.trans (Below.up (hbl2.trans (Below.up (hbl3.trans (Below.up hbl4 (by omega))) (by omega))) (by omega))
  refine (none_no p w4 (h.below hbl)).mono ?_
  rintro e w' ⟨rfl, rfl⟩
  go_wp2_with (first | (refine wpList_val rfl (exec_build0 _ rfl _ built_cert0) ?_) | (refine wpList_store_big rfl 39 _ _ rfl _ rfl (ccells zeroV (.slice none 0 0)) rfl _ _ hb4 (sizeCert zeroV_ok _) (by rw [ccells_len zeroV_ok]; rfl) (ccells_one _ rfl) ?_; intro w5 hb5 hf5 HS5))
  refine bodyPost_ret (results_ct rfl rfl (var_cert zeroV_ok (range_of_blk hb5))) rfl ?_
  exact ⟨rfl, below_fr hbl hf5 (by omega)⟩

end Go.Proofs.Ytpbcpocheblbfaa
