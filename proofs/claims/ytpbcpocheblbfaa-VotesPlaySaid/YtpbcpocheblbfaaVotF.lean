/- The walk of the votes' book: Of. -/
import Derived.Test.YtpbcpocheblbfaaVotE
namespace Go.Proofs.Ytpbcpocheblbfaa
set_option linter.unusedVariables false
set_option linter.unusedSimpArgs false
open Go.RowKit Go.MapKept

theorem lookM_mem {X : Type} {M : List (Ent X)} {k : Int × Int} {x : X} (h : lookM M k = some x) : (k, x) ∈ M := by
  unfold lookM at h
  obtain ⟨p, hp, rfl⟩ := Option.map_eq_some_iff.1 h
  have h1 := List.mem_of_find?_eq_some hp
  have h2 := List.find?_some hp
  have : p.1 = k := by simpa using h2
  rw [← this]; exact h1
def lookX (M : List (Ent One)) (k : Int × Int) : One := (lookM M k).getD zeroX
theorem look_val (M : List (Ent One)) (k : Int × Int) : ((lookM M k).map oval).getD (oval zeroX) = oval (lookX M k) := by
  unfold lookX
  cases lookM M k <;> rfl
theorem lookX_ok {M : List (Ent One)} (h : ∀ p ∈ M, p.2.ok) (k : Int × Int) : (lookX M k).ok := by
  unfold lookX
  cases hl : lookM M k with
  | none => exact zeroX_ok
  | some x => exact h _ (lookM_mem hl)
theorem exec_lookX {o : Oper} {w : World} {ρ : Operand → Value} (m x : Operand) (ho : o.op = .lookup 53 m x true) (mb : Nat) (hm : ρ m = .map (some mb)) (k : Int × Int) (hx : ρ x = kval k) (M : List (Ent One)) (hM : MapV oval w mb M) (h1 : I64 k.1) (h2 : I64 k.2) :
    (execOp ρ o).run Try.prog w = .ok (.value (.tuple #[oval (lookX M k), .bool (lookM M k).isSome])) w := by
  rw [exec_look m x ho mb hm k hx M hM h1 h2, look_val]
theorem results_cct {fn : Func} {p q u : Tmp} {ty ty2 : TypeId} (h : fn.results = #[.cell p ty, .cell q ty2, .tmp u]) {tmps : Array Value} {w : World} {a1 a2 : Addr} {v1 v2 : Value}
    (h1 : tmps.getD p undef = .pointer (some a1)) (l1 : (loadVar ty a1).run Try.prog w = .ok v1 w) (h2 : tmps.getD q undef = .pointer (some a2)) (l2 : (loadVar ty2 a2).run Try.prog w = .ok v2 w) :
    (results fn tmps).run Try.prog w = .ok (.tuple #[v1, v2, tmps.getD u undef]) w := by
  have h1' : tmps[p]?.getD undef = .pointer (some a1) := by simpa using h1
  have h2' : tmps[q]?.getD undef = .pointer (some a2) := by simpa using h2
  simp [results, h, Sem.run_bind, asAddr, h1', h2', l1, l2, Result.andThen]
theorem var_vote {w : World} {b off : Nat} {v : Vt} (hv : v.ok) (hc : w.rangeAt b off (vcells v)) : (loadVar 30 ⟨b, off, none⟩).run Try.prog w = .ok (vval v) w := run_loadVar_mid w b off _ _ _ hc Try.underlying30 rfl (sizeVote hv)
theorem var_tag {w : World} {b off : Nat} {t : List UInt8} (ht : t.length = 16) (hc : w.rangeAt b off (bv t)) : (loadVar 32 ⟨b, off, none⟩).run Try.prog w = .ok (tval t) w := run_loadVar_mid w b off _ _ _ hc Try.underlying32 rfl (sizeTag ht)
set_option maxRecDepth 100000 in
set_option maxHeartbeats 4000000 in
theorem of_any (w : World) {bb mb : Nat} {N : Int} {M : List (Ent One)} (h : BookR w bb mb N M) (kind node : Int) (hk : I64 kind) (hn : I64 node) :
    Calls Try.prog 12 #[.pointer (some ⟨bb, 0, none⟩), .int .i64 kind, .int .i64 node] w fun e w' => e = .returned (.tuple #[vval (lookX M (kind, node)).1, tval (lookX M (kind, node)).2, .bool (lookM M (kind, node)).isSome]) ∧ Below w.heap.size w w' := by
  have hx := lookX_ok h.ok (kind, node)
  have H := Lib.hid h
  have HK := Lib.hid (show I64 (kind, node).1 from hk)
  have HN := Lib.hid (show I64 (kind, node).2 from hn)
  obtain ⟨X, hX⟩ : ∃ X, X = lookX M (kind, node) := ⟨_, rfl⟩
  obtain ⟨bs, hbs⟩ : ∃ bs, bs = (lookM M (kind, node)).isSome := ⟨_, rfl⟩
  rw [← hX] at hx
  rw [← hX, ← hbs]
  have HL : Hid (∀ {o : Oper} {w : World} {ρ : Operand → Value} (m x : Operand) (ho : o.op = .lookup 53 m x true) (hm : ρ m = .map (some mb)) (hx : ρ x = kval (kind, node)) (hM : MapV oval w mb M), (execOp ρ o).run Try.prog w = .ok (.value (.tuple #[oval X, .bool bs])) w) := Lib.hid fun m x ho hm hx hM => by
    rw [exec_lookX m x ho mb hm (kind, node) hx M hM HK.out HN.out, ← hX, ← hbs]
  have HX := Lib.hid hx
  clear h hk hn hx hX hbs
  go_enter Try.func12, Try.ntmps12
  go_wp2_with (first | (refine wpList_alloc_big rfl 30 rfl (vcells zeroV).toArray 36 (by kernel_rfl) ?_; intro vb w1 HVB hb1 hbl1 HS1) | (refine wpList_alloc_big rfl 32 rfl (bv zeroT).toArray 16 (by kernel_rfl) ?_; intro tb w2 HTB hb2 hbl2 HS2))
  have hs1 := HS1.out
  have hs2 := HS2.out
  have hvb := HVB.out
  have htb := HTB.out
  have HH2 := Lib.hid ((H.out.below hbl1).below hbl2)
  have HBL := Lib.hid (hbl1.trans (Below.up hbl2 (by omega)))
  have HB1 := Lib.hid (hb1.below hbl2)
  have HB2 := Lib.hid hb2
  have hvt : vb < tb := by omega
  have hvl : vb < w2.heap.size := by omega
  have htl : tb < w2.heap.size := by omega
  have hws : w.heap.size ≤ vb := by omega
  clear hbl1 hbl2 hb1 hb2 H hs1 hs2 hvb htb HS1 HS2 HVB HTB
  refine (none_ok w2 HH2.out).mono ?_
  rintro e w' ⟨rfl, rfl⟩
  have c1 : w2.cell? ⟨bb, 1, none⟩ = some (.map (some mb)) := HH2.out.blk.cell 1
  go_wp2_with (first | (refine wpList_val rfl (HL.out _ _ rfl rfl rfl HH2.out.map) ?_) | (refine wpList_alloc_big rfl 62 rfl (ocells zeroX).toArray 52 (by kernel_rfl) ?_; intro ob w3 HO hb3 hbl3 HS3) | (refine wpList_store_big rfl 62 _ _ rfl _ rfl (ocells X) rfl _ _ hb3 (sizeOne HX.out) (by rw [ocells_len HX.out]; rfl) (ocells_one _) ?_; intro w4 hb4 hf4 HS4))
  have ho := HO.out
  have hs3 := HS3.out
  have hs4 := HS4.out
  have HB1 := Lib.hid ((HB1.out.below hbl3).fr hf4 (by omega))
  have HB2 := Lib.hid ((HB2.out.below hbl3).fr hf4 (by omega))
  have hl4 : Below w.heap.size w w4 := (HBL.out.trans (Below.up hbl3 HBL.out.size)).trans ⟨hf4.os, hf4.tape, hf4.output, hf4.size, fun k hk => hf4.block k (by omega) (by omega)⟩
  have HBL := Lib.hid hl4
  have HR := Lib.hid (range_part (range_of_blk hb4))
  have hovt : vb ≠ ob ∧ tb ≠ ob := by omega
  clear hbl3 hb3 hb4 hf4 hl4 HO HS3 HS4 c1 HH2 ho hs3 hs4
  refine wp_region_phased (fun W => W.rangeAt ob 0 (vcells X.1) ∧ W.rangeAt ob 36 (bv X.2)) 8 (by kernel_rfl) ⟨range_below HR.out.1 (Below.refl _ _).drew, by have := range_below HR.out.2 (Below.refl _ _).drew; rwa [vcells_len HX.out.vote] at this⟩ (fun hS => ?_)
  refine wpAnyP_pure (v := ?_) 0 (at_toArray rfl) (by kernel_rfl) (by kernel_rfl) (by kernel_rfl) (fun _ _ _ h => h) (Or.inl ⟨by rfl, fun W => ?_⟩) ?_
  rotate_left 1
  · (go_simp <;> (try go_bits) <;> with_reducible rfl)
  simp only [Act.put, List.setIfInBounds_toArray, List.set_cons_zero, List.set_cons_succ]
  refine wpAnyP_load (v := vval X.1) 1 (by kernel_rfl) (at_toArray rfl) (by kernel_rfl) (by kernel_rfl) (by kernel_rfl) (fun _ _ _ h => h) (by first | assumption | rfl) (Or.inl ⟨by rfl, fun W hS => (by obtain ⟨s1, _⟩ := hS; exact load_vote HX.out.vote s1 rfl rfl)⟩) ?_
  simp only [Act.put, List.setIfInBounds_toArray, List.set_cons_zero, List.set_cons_succ]
  refine wpAnyP_pure (v := ?_) 2 (at_toArray rfl) (by kernel_rfl) (by kernel_rfl) (by kernel_rfl) (fun _ _ _ h => h) (Or.inl ⟨by rfl, fun W => ?_⟩) ?_
  rotate_left 1
  · (go_simp <;> (try go_bits) <;> with_reducible rfl)
  simp only [Act.put, List.setIfInBounds_toArray, List.set_cons_zero, List.set_cons_succ]
  refine wpAnyP_load (v := tval X.2) 3 (by kernel_rfl) (at_toArray rfl) (by kernel_rfl) (by kernel_rfl) (by kernel_rfl) (fun _ _ _ h => h) (by first | assumption | rfl) (Or.inl ⟨by rfl, fun W hS => (by obtain ⟨_, s2⟩ := hS; exact load_tag HX.out.tag s2 rfl rfl)⟩) ?_
  simp only [Act.put, List.setIfInBounds_toArray, List.set_cons_zero, List.set_cons_succ]
  refine wpAnyP_pure (v := ?_) 4 (at_toArray rfl) (by kernel_rfl) (by kernel_rfl) (by kernel_rfl) (fun _ _ _ h => h) (Or.inl ⟨by rfl, fun W => ?_⟩) ?_
  rotate_left 1
  · (go_simp <;> (try go_bits) <;> with_reducible rfl)
  simp only [Act.put, List.setIfInBounds_toArray, List.set_cons_zero, List.set_cons_succ]
  refine wpAnyP_one 5 (at_toArray rfl) (by kernel_rfl) rfl (fun K hK => ?_)
  refine wp_store_big 30 _ _ rfl _ rfl (vcells X.1) rfl _ _ (HB1.out.drew) (sizeVote HX.out.vote) (by rw [vcells_len HX.out.vote]; rfl) (vcells_one _) fun w5 hb5 hf5 HS5 => ?_
  have hS5 : w5.rangeAt ob 0 (vcells X.1) ∧ w5.rangeAt ob 36 (bv X.2) := ⟨range_fr hS.1 hf5 (fun e => hovt.1 e.symm), range_fr hS.2 hf5 (fun e => hovt.1 e.symm)⟩
  refine hK.out _ _ (fun _ _ => hS5) ?_
  clear hK hS
  refine wpAnyP_one 6 (at_toArray rfl) (by kernel_rfl) rfl (fun K hK => ?_)
  refine wp_store_big 32 _ _ rfl _ rfl (bv X.2) rfl _ _ (HB2.out.drew.fr hf5 (by omega)) (sizeTag HX.out.tag) (by rw [bv_length, HX.out.tag]; rfl) (bv_one' _) fun w6 hb6 hf6 HS6 => ?_
  refine hK.out _ _ (fun _ _ => ⟨range_fr hS5.1 hf6 (fun e => hovt.2 e.symm), range_fr hS5.2 hf6 (fun e => hovt.2 e.symm)⟩) ?_
  clear hK
  refine wpAnyP_pure (v := ?_) 7 (at_toArray rfl) (by kernel_rfl) (by kernel_rfl) (by kernel_rfl) (fun _ _ _ h => h) (Or.inl ⟨by rfl, fun W => ?_⟩) ?_
  rotate_left 1
  · (go_simp <;> (try go_bits) <;> with_reducible rfl)
  simp only [Act.put, List.setIfInBounds_toArray, List.set_cons_zero, List.set_cons_succ]
  refine wpAnyP_done (by kernel_rfl) ?_ _
  have hv6 : w6.rangeAt vb 0 (vcells X.1) := range_fr (range_of_blk hb5) hf6 (by omega)
  have ht6 := range_of_blk hb6
  go_wp2_with fail
  refine bodyPost_ret (results_cct rfl rfl (var_vote HX.out.vote hv6) rfl (var_tag HX.out.tag ht6)) rfl ?_
  have e5 := HS5.out
  have e6 := HS6.out
  exact ⟨rfl, (HBL.out.trans (Below.up (Below.refl _ _).drew HBL.out.size)).trans ((show Below w.heap.size w4.drew w5 from ⟨hf5.os, hf5.tape, hf5.output, hf5.size, fun k hk => hf5.block k (by have := HBL.out.size; simp only [World.drew]; omega) (by omega)⟩).trans ⟨hf6.os, hf6.tape, hf6.output, hf6.size, fun k hk => hf6.block k (by have := HBL.out.size; rw [e5]; simp only [World.drew]; omega) (by omega)⟩)⟩

end Go.Proofs.Ytpbcpocheblbfaa
