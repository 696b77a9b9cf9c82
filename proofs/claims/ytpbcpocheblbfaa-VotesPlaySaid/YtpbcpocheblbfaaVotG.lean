/- The walk of the votes' book: Add. -/
import Derived.Test.YtpbcpocheblbfaaVotF
namespace Go.Proofs.Ytpbcpocheblbfaa
set_option linter.unusedVariables false
set_option linter.unusedSimpArgs false
open Go.RowKit Go.MapKept

def addP (N : Int) (M : List (Ent One)) (node : Int) (v : Vt) (t : List UInt8) : Int × List (Ent One) :=
  if node < 0 ∨ N ≤ node then (2, M)
  else if v.kind ≠ 1 ∧ v.kind ≠ 2 then (2, M)
  else if (lookM M (v.kind, node)).isSome = false ∨ (lookX M (v.kind, node)).1.view < v.view then (0, putM M (v.kind, node) (v, t))
  else if (lookX M (v.kind, node)).1 = v then (0, M)
  else if (lookX M (v.kind, node)).1.view = v.view then (181, M) else (90, M)
theorem putM_mem {M : List (Ent One)} {k : Int × Int} {x : One} {p : Ent One} (h : p ∈ putM M k x) : p = (k, x) ∨ p ∈ M := by
  unfold putM at h
  split at h
  · obtain ⟨q, hq, rfl⟩ := List.mem_map.1 h
    split
    · exact .inl rfl
    · exact .inr hq
  · rcases List.mem_append.1 h with h | h
    · exact .inr h
    · exact .inl (List.mem_singleton.1 h)
theorem putM_len (M : List (Ent One)) (k : Int × Int) (x : One) : (putM M k x).length ≤ M.length + 1 := by
  unfold putM
  split
  · simp
  · simp
theorem BookR.ne {w : World} {bb mb : Nat} {N : Int} {M : List (Ent One)} (h : BookR w bb mb N M) : bb ≠ mb := by
  rintro rfl
  obtain ⟨es, clock, D, hb, _⟩ := h.map
  have := h.blk
  unfold Blk at this
  rw [hb] at this; cases this
theorem exec_build2 {o : Oper} {w : World} {ρ : Operand → Value} (t : TypeId) (i0 i1 : Nat) (x0 x1 : Operand) (v0 v1 : Value) (ho : o.op = .build t #[(i0, x0), (i1, x1)]) (h0 : ρ x0 = v0) (h1 : ρ x1 = v1) (cells : Array Value) (hf : Try.prog.built t [(i0, v0), (i1, v1)] = some cells) : (execOp ρ o).run Try.prog w = .ok (.value (.agg cells)) w :=
  exec_build t _ ho cells (by simpa [h0, h1] using hf)
def AddPost (w : World) (bb mb : Nat) (N : Int) (r : Int × List (Ent One)) (e : Ending) (w' : World) : Prop := e = .returned (.int .i64 r.1) ∧ BookR w' bb mb N r.2 ∧ Fr (fun k => k = mb) w w'
theorem vote_cells {w : World} {b : Nat} {v : Vt} {t : TypeId} (h : Blk w b (vcells v).toArray t) : w.cell? ⟨b, 0, none⟩ = some (.int .i64 v.kind) ∧ w.cell? ⟨b, 1, none⟩ = some (.int .i64 v.epoch) ∧ w.cell? ⟨b, 2, none⟩ = some (.int .i64 v.view) ∧ w.cell? ⟨b, 3, none⟩ = some (.int .i64 v.slot) :=
  ⟨h.cell 0, h.cell 1, h.cell 2, h.cell 3⟩
theorem one_cells {w : World} {b : Nat} {x : One} {t : TypeId} (h : Blk w b (ocells x).toArray t) : w.cell? ⟨b, 0, none⟩ = some (.int .i64 x.1.kind) ∧ w.cell? ⟨b, 1, none⟩ = some (.int .i64 x.1.epoch) ∧ w.cell? ⟨b, 2, none⟩ = some (.int .i64 x.1.view) ∧ w.cell? ⟨b, 3, none⟩ = some (.int .i64 x.1.slot) :=
  ⟨h.cell 0, h.cell 1, h.cell 2, h.cell 3⟩
theorem key_range {w : World} {b : Nat} {k n : Int} {t : TypeId} (h : Blk w b [.int .i64 k, .int .i64 n].toArray t) : w.rangeAt b 0 [.int .i64 k, .int .i64 n] := range_of_blk h
theorem load_key {o : Oper} {w : World} {ρ : Operand → Value} {x : Operand} {b off : Nat} {k n : Int} (hc : w.rangeAt b off [.int .i64 k, .int .i64 n]) (ho : o.op = .load 60 x) (hx : ρ x = .pointer (some ⟨b, off, none⟩)) : (execOp ρ o).run Try.prog w = .ok (.value (kval (k, n))) w :=
  exec_load _ x ho b off hx _ _ hc Try.underlying60 rfl (by kernel_rfl)
set_option maxRecDepth 100000 in
set_option maxHeartbeats 8000000 in
theorem add_any (w : World) {bb mb : Nat} {N : Int} {M : List (Ent One)} (h : BookR w bb mb N M) (hsm : M.length < 1000) (node : Int) (v : Vt) (t : List UInt8) (hn : I64 node) (hv : v.ok) (ht : t.length = 16) :
    Calls Try.prog 9 #[.pointer (some ⟨bb, 0, none⟩), .int .i64 node, vval v, tval t] w (AddPost w bb mb N (addP N M node v t)) := by
  obtain ⟨r, hr⟩ : ∃ r, r = addP N M node v t := ⟨_, rfl⟩
  rw [← hr]
  unfold addP at hr
  have HR := Lib.hid hr
  have H := Lib.hid h
  have HN := Lib.hid hn
  have HV := Lib.hid hv
  have HT := Lib.hid ht
  have HSM := Lib.hid hsm
  clear hr h hn hv ht hsm
  go_enter Try.func9, Try.ntmps9
  go_wp2_with (first | (refine wpList_box_big rfl 30 _ rfl _ rfl ?_; intro vb w1 HVB hb1 hbl1 HS1) | (refine wpList_box_big rfl 32 _ rfl _ rfl ?_; intro tb w2 HTB hb2 hbl2 HS2))
  have hs1 := HS1.out
  have hs2 := HS2.out
  have hvb := HVB.out
  have htb := HTB.out
  have HH2 := Lib.hid ((H.out.below hbl1).below hbl2)
  have HBL := Lib.hid (hbl1.trans (Below.up hbl2 (by omega)))
  have HB1 := Lib.hid (hb1.below hbl2)
  have HB2 := Lib.hid hb2
  have hvt : vb < tb := by omega
  have hvl : vb < w2.heap.size := by omega
  have htl : tb < w2.heap.size := by omega
  have hws : w.heap.size ≤ vb := by omega
  clear hbl1 hbl2 hb1 hb2 H hs1 hs2 hvb htb HS1 HS2 HVB HTB
  refine (none_ok w2 HH2.out).mono ?_
  rintro e w' ⟨rfl, rfl⟩
  have c0 : w2.cell? ⟨bb, 0, none⟩ = some (.int .i64 N) := HH2.out.blk.cell 0
  have c1 : w2.cell? ⟨bb, 1, none⟩ = some (.map (some mb)) := HH2.out.blk.cell 1
  obtain ⟨kind, hkd⟩ : ∃ kind, kind = v.kind := ⟨_, rfl⟩
  have k0 := (vote_cells HB1.out).1
  rw [← hkd] at k0
  have HKD := Lib.hid hkd
  clear hkd
  by_cases h1 : node < 0
  · have hr := HR.out
    rw [if_pos (.inl h1)] at hr
    subst hr
    go_wp2_with fail
    go_ret
    exact ⟨rfl, HH2.out, Fr.of_below HBL.out⟩
  · by_cases h2 : N ≤ node
    · have hr := HR.out
      rw [if_pos (.inr h2)] at hr
      subst hr
      go_wp2_with fail
      go_ret
      exact ⟨rfl, HH2.out, Fr.of_below HBL.out⟩
    · have hr := HR.out
      rw [if_neg (by omega)] at hr
      have HR := Lib.hid hr
      clear hr
      by_cases h3 : kind = 1 ∨ kind = 2
      · have hr := HR.out
        rw [if_neg (by rw [← HKD.out]; omega)] at hr
        have HR := Lib.hid hr
        clear hr
        obtain ⟨X, hX⟩ : ∃ X, X = lookX M (v.kind, node) := ⟨_, rfl⟩
        obtain ⟨bs, hbs⟩ : ∃ bs, bs = (lookM M (v.kind, node)).isSome := ⟨_, rfl⟩
        have hr := HR.out
        rw [← hX, ← hbs] at hr
        have HR := Lib.hid hr
        have HX : Hid X.ok := Lib.hid (by rw [hX]; exact lookX_ok HH2.out.ok _)
        have HL : Hid (∀ {o : Oper} {w : World} {ρ : Operand → Value} (m x : Operand) (ho : o.op = .lookup 53 m x true) (hm : ρ m = .map (some mb)) (hx : ρ x = kval (kind, node)) (hM : MapV oval w mb M), (execOp ρ o).run Try.prog w = .ok (.value (.tuple #[oval X, .bool bs])) w) := Lib.hid fun m x ho hm hx hM => by
          rw [exec_lookX m x ho mb hm (kind, node) hx M hM (by rw [HKD.out]; exact HV.out.kind) HN.out, hX, hbs, HKD.out]
        have HKI : Hid (I64 kind) := Lib.hid (by rw [HKD.out]; exact HV.out.kind)
        clear hr hX hbs
        have hxv := Lib.hid (show True from trivial)
        rcases h3 with rfl | rfl
        · go_wp2_with (first | (refine wpList_alloc_big rfl 60 rfl #[.int .i64 0, .int .i64 0] 2 (by kernel_rfl) ?_; intro kb w3 HKB hb3 hbl3 HS3) | (refine wpList_store_big rfl 60 _ _ rfl _ rfl [.int .i64 1, .int .i64 node] rfl _ _ hb3 (by kernel_rfl) rfl (by intro u hu; simp at hu; rcases hu with rfl | rfl <;> rfl) ?_; intro w4 hb4 hf4 HS4))
          have hkb := HKB.out
          have hs3 := HS3.out
          have hs4 := HS4.out
          have hB := HBL.out.size
          have HH4 := Lib.hid ((HH2.out.below hbl3).fr hf4 (by have := HH2.out.blk.lt; omega) (by have := HH2.out.map.lt; omega))
          have HB1 := Lib.hid ((HB1.out.below hbl3).fr hf4 (by omega))
          have HB2 := Lib.hid ((HB2.out.below hbl3).fr hf4 (by omega))
          have hl4 : Below w.heap.size w w4 := (HBL.out.trans (Below.up hbl3 hB)).trans ⟨hf4.os, hf4.tape, hf4.output, hf4.size, fun k hk => hf4.block k (by omega) (by omega)⟩
          have HBL := Lib.hid hl4
          have HKR := Lib.hid (key_range hb4)
          have c1 : w4.cell? ⟨bb, 1, none⟩ = some (.map (some mb)) := HH4.out.blk.cell 1
          have hkl : kb < w4.heap.size := by omega
          have htk : tb < kb := by omega
          have hvl : vb < w4.heap.size := by omega
          have htl : tb < w4.heap.size := by omega
          clear hbl3 hb3 hb4 hf4 hl4 HKB HS3 HS4 hkb hs3 hs4 hB HH2
          refine wp_region_phased (fun W => W.cell? ⟨bb, 1, none⟩ = some (.map (some mb)) ∧ W.rangeAt kb 0 [.int .i64 1, .int .i64 node] ∧ MapV oval W mb M) 12 (by kernel_rfl) ⟨c1, range_below HKR.out (Below.refl _ _).drew, HH4.out.map.below (Below.refl _ _).drew⟩ (fun hS => ?_)
          refine wpAnyP_pure (v := ?_) 0 (at_toArray rfl) (by kernel_rfl) (by kernel_rfl) (by kernel_rfl) (fun _ _ _ h => h) (Or.inl ⟨by rfl, fun W => ?_⟩) ?_
          rotate_left 1
          · (go_simp <;> (try go_bits) <;> with_reducible rfl)
          simp only [Act.put, List.setIfInBounds_toArray, List.set_cons_zero, List.set_cons_succ]
          refine wpAnyP_pure (v := ?_) 1 (at_toArray rfl) (by kernel_rfl) (by kernel_rfl) (by kernel_rfl) (fun _ _ _ h => h) (Or.inl ⟨by rfl, fun W => ?_⟩) ?_
          rotate_left 1
          · (go_simp <;> (try go_bits) <;> with_reducible rfl)
          simp only [Act.put, List.setIfInBounds_toArray, List.set_cons_zero, List.set_cons_succ]
          refine wpAnyP_pure (v := ?_) 2 (at_toArray rfl) (by kernel_rfl) (by kernel_rfl) (by kernel_rfl) (fun _ _ _ h => h) (Or.inl ⟨by rfl, fun W => ?_⟩) ?_
          rotate_left 1
          · (go_simp <;> (try go_bits) <;> with_reducible rfl)
          simp only [Act.put, List.setIfInBounds_toArray, List.set_cons_zero, List.set_cons_succ]
          refine wpAnyP_load (v := ?_) 3 (by kernel_rfl) (at_toArray rfl) (by kernel_rfl) (by kernel_rfl) (by kernel_rfl) (fun _ _ _ h => h) (by first | assumption | rfl) (Or.inl ⟨by rfl, fun W hS => ?_⟩) ?_
          rotate_left 1
          · (obtain ⟨_, _, _⟩ := hS; go_simp <;> (try go_bits) <;> with_reducible rfl)
          simp only [Act.put, List.setIfInBounds_toArray, List.set_cons_zero, List.set_cons_succ]
          refine wpAnyP_load (v := kval (1, node)) 4 (by kernel_rfl) (at_toArray rfl) (by kernel_rfl) (by kernel_rfl) (by kernel_rfl) (fun _ _ _ h => h) (by first | assumption | rfl) (Or.inl ⟨by rfl, fun W hS => (by obtain ⟨_, s, _⟩ := hS; exact load_key s rfl rfl)⟩) ?_
          simp only [Act.put, List.setIfInBounds_toArray, List.set_cons_zero, List.set_cons_succ]
          refine wpAnyP_load (v := .tuple #[oval X, .bool bs]) 5 (by kernel_rfl) (at_toArray rfl) (by kernel_rfl) (by kernel_rfl) (by kernel_rfl) (fun _ _ _ h => h) (by first | assumption | rfl) (Or.inl ⟨by rfl, fun W hS => (by obtain ⟨_, _, s⟩ := hS; exact HL.out _ _ rfl rfl rfl s)⟩) ?_
          simp only [Act.put, List.setIfInBounds_toArray, List.set_cons_zero, List.set_cons_succ]
          refine wpAnyP_pure (v := ?_) 6 (at_toArray rfl) (by kernel_rfl) (by kernel_rfl) (by kernel_rfl) (fun _ _ _ h => h) (Or.inl ⟨by rfl, fun W => ?_⟩) ?_
          rotate_left 1
          · (go_simp <;> (try go_bits) <;> with_reducible rfl)
          simp only [Act.put, List.setIfInBounds_toArray, List.set_cons_zero, List.set_cons_succ]
          refine wpAnyP_pure (v := ?_) 7 (at_toArray rfl) (by kernel_rfl) (by kernel_rfl) (by kernel_rfl) (fun _ _ _ h => h) (Or.inl ⟨by rfl, fun W => ?_⟩) ?_
          rotate_left 1
          · (go_simp <;> (try go_bits) <;> with_reducible rfl)
          simp only [Act.put, List.setIfInBounds_toArray, List.set_cons_zero, List.set_cons_succ]
          refine wpAnyP_pure (v := ?_) 8 (at_toArray rfl) (by kernel_rfl) (by kernel_rfl) (by kernel_rfl) (fun _ _ _ h => h) (Or.inl ⟨by rfl, fun W => ?_⟩) ?_
          rotate_left 1
          · (go_simp <;> (try go_bits) <;> with_reducible rfl)
          simp only [Act.put, List.setIfInBounds_toArray, List.set_cons_zero, List.set_cons_succ]
          refine wpAnyP_one 9 (at_toArray rfl) (by kernel_rfl) rfl (fun K hK => ?_)
          refine wp_alloc_big 62 rfl (ocells zeroX).toArray 52 (by kernel_rfl) fun ob w5 HOB hb5 hbl5 HS5 => ?_
          have hl5 := (Below.refl w4.heap.size w4).drew.trans (Below.up hbl5 (Nat.le_refl _))
          have HH5 := Lib.hid (HH4.out.below hl5)
          have hS5 : w5.cell? ⟨bb, 1, none⟩ = some (.map (some mb)) ∧ w5.rangeAt kb 0 [.int .i64 1, .int .i64 node] ∧ MapV oval w5 mb M := ⟨HH5.out.blk.cell 1, range_below HKR.out hl5, HH5.out.map⟩
          refine hK.out _ _ (fun _ _ => hS5) ?_
          clear hK hS
          refine wpAnyP_one 10 (at_toArray rfl) (by kernel_rfl) rfl (fun K hK => ?_)
          refine wp_store_big 62 _ _ rfl _ rfl (ocells X) rfl _ _ hb5 (sizeOne HX.out) (by rw [ocells_len HX.out]; rfl) (ocells_one _) fun w6 hb6 hf6 HS6 => ?_
          have hob : w4.heap.size = ob := HOB.out
          have hs5 := HS5.out
          have hs6 := HS6.out
          have HH6 := Lib.hid (HH5.out.fr hf6 (by have := HH4.out.blk.lt; omega) (by have := HH4.out.map.lt; omega))
          have hS6 : w6.cell? ⟨bb, 1, none⟩ = some (.map (some mb)) ∧ w6.rangeAt kb 0 [.int .i64 1, .int .i64 node] ∧ MapV oval w6 mb M := ⟨HH6.out.blk.cell 1, range_fr hS5.2.1 hf6 (by omega), HH6.out.map⟩
          refine hK.out _ _ (fun _ _ => hS6) ?_
          clear hK
          refine wpAnyP_pure (v := ?_) 11 (at_toArray rfl) (by kernel_rfl) (by kernel_rfl) (by kernel_rfl) (fun _ _ _ h => h) (Or.inl ⟨by rfl, fun W => ?_⟩) ?_
          rotate_left 1
          · (go_simp <;> (try go_bits) <;> with_reducible rfl)
          simp only [Act.put, List.setIfInBounds_toArray, List.set_cons_zero, List.set_cons_succ]
          refine wpAnyP_done (by kernel_rfl) ?_ _
          have HB1 := Lib.hid ((HB1.out.below hl5).fr hf6 (by omega))
          have HB2 := Lib.hid ((HB2.out.below hl5).fr hf6 (by omega))
          have HBL := Lib.hid ((HBL.out.trans (Below.up hl5 HBL.out.size)).trans (show Below w.heap.size w5 w6 from ⟨hf6.os, hf6.tape, hf6.output, hf6.size, fun k hk => hf6.block k (by have := HBL.out.size; have := hl5.size; omega) (by have := HBL.out.size; omega)⟩))
          have HKR := Lib.hid hS6.2.1
          have HOB6 := Lib.hid hb6
          have hkl : kb < w6.heap.size := by omega
          have hvl : vb < w6.heap.size := by omega
          have htl : tb < w6.heap.size := by omega
          have x2 := (one_cells hb6).2.2.1
          have v2 := (vote_cells HB1.out).2.2.1
          have c1 := hS6.1
          obtain ⟨xw, hxw⟩ : ∃ xw, xw = X.1.view := ⟨_, rfl⟩
          obtain ⟨vw, hvw⟩ : ∃ vw, vw = v.view := ⟨_, rfl⟩
          have hr := HR.out
          rw [← hxw, ← hvw] at hr
          rw [← hxw] at x2
          rw [← hvw] at v2
          have HR := Lib.hid hr
          have HXW := Lib.hid hxw
          have HVW := Lib.hid hvw
          clear hr hxw hvw hb5 hbl5 HOB HS5 hl5 HH5 hS5 hb6 hf6 HS6 hob hs5 hs6 hS6 HH4
          by_cases hup : bs = false ∨ xw < vw
          · have hr := HR.out
            rw [if_pos hup] at hr
            subst hr
            cases bs with
            | false =>
              skip
              clear hup
              go_wp2_with fail
              refine wp_region_phased (fun W => W.cell? ⟨bb, 1, none⟩ = some (.map (some mb)) ∧ W.rangeAt kb 0 [.int .i64 1, .int .i64 node] ∧ W.rangeAt vb 0 (vcells v) ∧ W.rangeAt tb 0 (bv t)) 8 (by kernel_rfl) ⟨c1, range_below HKR.out (Below.refl _ _).drew, range_below (range_of_blk HB1.out) (Below.refl _ _).drew, range_below (range_of_blk HB2.out) (Below.refl _ _).drew⟩ (fun hS => ?_)
              refine wpAnyP_pure (v := ?_) 0 (at_toArray rfl) (by kernel_rfl) (by kernel_rfl) (by kernel_rfl) (fun _ _ _ h => h) (Or.inl ⟨by rfl, fun W => ?_⟩) ?_
              rotate_left 1
              · (go_simp <;> (try go_bits) <;> with_reducible rfl)
              simp only [Act.put, List.setIfInBounds_toArray, List.set_cons_zero, List.set_cons_succ]
              refine wpAnyP_pure (v := ?_) 1 (at_toArray rfl) (by kernel_rfl) (by kernel_rfl) (by kernel_rfl) (fun _ _ _ h => h) (Or.inl ⟨by rfl, fun W => ?_⟩) ?_
              rotate_left 1
              · (go_simp <;> (try go_bits) <;> with_reducible rfl)
              simp only [Act.put, List.setIfInBounds_toArray, List.set_cons_zero, List.set_cons_succ]
              refine wpAnyP_pure (v := ?_) 2 (at_toArray rfl) (by kernel_rfl) (by kernel_rfl) (by kernel_rfl) (fun _ _ _ h => h) (Or.inl ⟨by rfl, fun W => ?_⟩) ?_
              rotate_left 1
              · (go_simp <;> (try go_bits) <;> with_reducible rfl)
              simp only [Act.put, List.setIfInBounds_toArray, List.set_cons_zero, List.set_cons_succ]
              refine wpAnyP_load (v := ?_) 3 (by kernel_rfl) (at_toArray rfl) (by kernel_rfl) (by kernel_rfl) (by kernel_rfl) (fun _ _ _ h => h) (by first | assumption | rfl) (Or.inl ⟨by rfl, fun W hS => ?_⟩) ?_
              rotate_left 1
              · (obtain ⟨_, _, _, _⟩ := hS; go_simp <;> (try go_bits) <;> with_reducible rfl)
              simp only [Act.put, List.setIfInBounds_toArray, List.set_cons_zero, List.set_cons_succ]
              refine wpAnyP_load (v := kval (1, node)) 4 (by kernel_rfl) (at_toArray rfl) (by kernel_rfl) (by kernel_rfl) (by kernel_rfl) (fun _ _ _ h => h) (by first | assumption | rfl) (Or.inl ⟨by rfl, fun W hS => (by obtain ⟨_, s, _, _⟩ := hS; exact load_key s rfl rfl)⟩) ?_
              simp only [Act.put, List.setIfInBounds_toArray, List.set_cons_zero, List.set_cons_succ]
              refine wpAnyP_load (v := vval v) 5 (by kernel_rfl) (at_toArray rfl) (by kernel_rfl) (by kernel_rfl) (by kernel_rfl) (fun _ _ _ h => h) (by first | assumption | rfl) (Or.inl ⟨by rfl, fun W hS => (by obtain ⟨_, _, s, _⟩ := hS; exact load_vote HV.out s rfl rfl)⟩) ?_
              simp only [Act.put, List.setIfInBounds_toArray, List.set_cons_zero, List.set_cons_succ]
              refine wpAnyP_load (v := tval t) 6 (by kernel_rfl) (at_toArray rfl) (by kernel_rfl) (by kernel_rfl) (by kernel_rfl) (fun _ _ _ h => h) (by first | assumption | rfl) (Or.inl ⟨by rfl, fun W hS => (by obtain ⟨_, _, _, s⟩ := hS; exact load_tag HT.out s rfl rfl)⟩) ?_
              simp only [Act.put, List.setIfInBounds_toArray, List.set_cons_zero, List.set_cons_succ]
              refine wpAnyP_load (v := oval (v, t)) 7 (by kernel_rfl) (at_toArray rfl) (by kernel_rfl) (by kernel_rfl) (by kernel_rfl) (fun _ _ _ h => h) (by first | assumption | rfl) (Or.inl ⟨by rfl, fun W hS => (by obtain _ := hS; exact exec_build2 _ _ _ _ _ _ _ rfl rfl rfl _ (built_one HV.out HT.out))⟩) ?_
              simp only [Act.put, List.setIfInBounds_toArray, List.set_cons_zero, List.set_cons_succ]
              refine wpAnyP_one 8 (at_toArray rfl) (by kernel_rfl) rfl (fun K hK => ?_)
              refine wp_put _ _ _ rfl mb rfl (1, node) rfl (v, t) rfl M (HH6.out.map.below (Below.refl _ _).drew) HKI.out HN.out fun w8 hm8 hf8 HS8 => ?_
              refine hK.out _ _ (fun h => absurd h (by decide)) ?_
              clear hK hS
              refine wpAnyP_done (by kernel_rfl) ?_ _
              have hbm := HH6.out.ne
              have HH8 : Hid (BookR w8 bb mb N (putM M (1, node) (v, t))) := Lib.hid ⟨HH6.out.blk.drew.fr hf8 hbm, hm8, fun p hp => (putM_mem hp).elim (fun e => by rw [e]; exact ⟨HV.out, HT.out⟩) (HH6.out.ok p), by have := putM_len M (1, node) (v, t); have := HSM.out; omega⟩
              have HF8 : Hid (Fr (fun k => k = mb) w w8) := Lib.hid ((Fr.of_below (HBL.out.trans (Below.up (Below.refl _ _).drew HBL.out.size))).trans hf8 (fun i h => .inl h))
              clear hm8 hf8 HS8 hbm
              go_wp2_with fail
              go_ret
              rw [← HKD.out]
              exact ⟨rfl, HH8.out, HF8.out⟩
            | true =>
              have hlt : xw < vw := by simpa using hup
              clear hup
              go_wp2_with fail
              refine wp_region_phased (fun W => W.cell? ⟨bb, 1, none⟩ = some (.map (some mb)) ∧ W.rangeAt kb 0 [.int .i64 1, .int .i64 node] ∧ W.rangeAt vb 0 (vcells v) ∧ W.rangeAt tb 0 (bv t)) 8 (by kernel_rfl) ⟨c1, range_below HKR.out (Below.refl _ _).drew, range_below (range_of_blk HB1.out) (Below.refl _ _).drew, range_below (range_of_blk HB2.out) (Below.refl _ _).drew⟩ (fun hS => ?_)
              refine wpAnyP_pure (v := ?_) 0 (at_toArray rfl) (by kernel_rfl) (by kernel_rfl) (by kernel_rfl) (fun _ _ _ h => h) (Or.inl ⟨by rfl, fun W => ?_⟩) ?_
              rotate_left 1
              · (go_simp <;> (try go_bits) <;> with_reducible rfl)
              simp only [Act.put, List.setIfInBounds_toArray, List.set_cons_zero, List.set_cons_succ]
              refine wpAnyP_pure (v := ?_) 1 (at_toArray rfl) (by kernel_rfl) (by kernel_rfl) (by kernel_rfl) (fun _ _ _ h => h) (Or.inl ⟨by rfl, fun W => ?_⟩) ?_
              rotate_left 1
              · (go_simp <;> (try go_bits) <;> with_reducible rfl)
              simp only [Act.put, List.setIfInBounds_toArray, List.set_cons_zero, List.set_cons_succ]
              refine wpAnyP_pure (v := ?_) 2 (at_toArray rfl) (by kernel_rfl) (by kernel_rfl) (by kernel_rfl) (fun _ _ _ h => h) (Or.inl ⟨by rfl, fun W => ?_⟩) ?_
              rotate_left 1
              · (go_simp <;> (try go_bits) <;> with_reducible rfl)
              simp only [Act.put, List.setIfInBounds_toArray, List.set_cons_zero, List.set_cons_succ]
              refine wpAnyP_load (v := ?_) 3 (by kernel_rfl) (at_toArray rfl) (by kernel_rfl) (by kernel_rfl) (by kernel_rfl) (fun _ _ _ h => h) (by first | assumption | rfl) (Or.inl ⟨by rfl, fun W hS => ?_⟩) ?_
              rotate_left 1
              · (obtain ⟨_, _, _, _⟩ := hS; go_simp <;> (try go_bits) <;> with_reducible rfl)
              simp only [Act.put, List.setIfInBounds_toArray, List.set_cons_zero, List.set_cons_succ]
              refine wpAnyP_load (v := kval (1, node)) 4 (by kernel_rfl) (at_toArray rfl) (by kernel_rfl) (by kernel_rfl) (by kernel_rfl) (fun _ _ _ h => h) (by first | assumption | rfl) (Or.inl ⟨by rfl, fun W hS => (by obtain ⟨_, s, _, _⟩ := hS; exact load_key s rfl rfl)⟩) ?_
              simp only [Act.put, List.setIfInBounds_toArray, List.set_cons_zero, List.set_cons_succ]
              refine wpAnyP_load (v := vval v) 5 (by kernel_rfl) (at_toArray rfl) (by kernel_rfl) (by kernel_rfl) (by kernel_rfl) (fun _ _ _ h => h) (by first | assumption | rfl) (Or.inl ⟨by rfl, fun W hS => (by obtain ⟨_, _, s, _⟩ := hS; exact load_vote HV.out s rfl rfl)⟩) ?_
              simp only [Act.put, List.setIfInBounds_toArray, List.set_cons_zero, List.set_cons_succ]
              refine wpAnyP_load (v := tval t) 6 (by kernel_rfl) (at_toArray rfl) (by kernel_rfl) (by kernel_rfl) (by kernel_rfl) (fun _ _ _ h => h) (by first | assumption | rfl) (Or.inl ⟨by rfl, fun W hS => (by obtain ⟨_, _, _, s⟩ := hS; exact load_tag HT.out s rfl rfl)⟩) ?_
              simp only [Act.put, List.setIfInBounds_toArray, List.set_cons_zero, List.set_cons_succ]
              refine wpAnyP_load (v := oval (v, t)) 7 (by kernel_rfl) (at_toArray rfl) (by kernel_rfl) (by kernel_rfl) (by kernel_rfl) (fun _ _ _ h => h) (by first | assumption | rfl) (Or.inl ⟨by rfl, fun W hS => (by obtain _ := hS; exact exec_build2 _ _ _ _ _ _ _ rfl rfl rfl _ (built_one HV.out HT.out))⟩) ?_
              simp only [Act.put, List.setIfInBounds_toArray, List.set_cons_zero, List.set_cons_succ]
              refine wpAnyP_one 8 (at_toArray rfl) (by kernel_rfl) rfl (fun K hK => ?_)
              refine wp_put _ _ _ rfl mb rfl (1, node) rfl (v, t) rfl M (HH6.out.map.below (Below.refl _ _).drew) HKI.out HN.out fun w8 hm8 hf8 HS8 => ?_
              refine hK.out _ _ (fun h => absurd h (by decide)) ?_
              clear hK hS
              refine wpAnyP_done (by kernel_rfl) ?_ _
              have hbm := HH6.out.ne
              have HH8 : Hid (BookR w8 bb mb N (putM M (1, node) (v, t))) := Lib.hid ⟨HH6.out.blk.drew.fr hf8 hbm, hm8, fun p hp => (putM_mem hp).elim (fun e => by rw [e]; exact ⟨HV.out, HT.out⟩) (HH6.out.ok p), by have := putM_len M (1, node) (v, t); have := HSM.out; omega⟩
              have HF8 : Hid (Fr (fun k => k = mb) w w8) := Lib.hid ((Fr.of_below (HBL.out.trans (Below.up (Below.refl _ _).drew HBL.out.size))).trans hf8 (fun i h => .inl h))
              clear hm8 hf8 HS8 hbm
              go_wp2_with fail
              go_ret
              rw [← HKD.out]
              exact ⟨rfl, HH8.out, HF8.out⟩
          · have hbs : bs = true := by cases bs with | true => rfl | false => exact absurd (.inl rfl) hup
            have hlt : ¬ xw < vw := fun h => hup (.inr h)
            subst hbs
            have hr := HR.out
            rw [if_neg hup] at hr
            have HR := Lib.hid hr
            clear hr hup
            by_cases hxe : X.1 = v
            · have hr := HR.out
              rw [if_pos hxe] at hr
              subst hr
              have hd : decide (X.1 = v) = true := decide_eq_true hxe
              clear hxe
              go_wp2_with (first | (refine wpList_val rfl (load_vote HX.out.vote (range_part (range_of_blk HOB6.out)).1 rfl rfl) ?_) | (refine wpList_val rfl (load_vote HV.out (range_of_blk HB1.out) rfl rfl) ?_) | (refine wpList_val rfl (vote_eql _ HX.out.vote HV.out rfl rfl rfl) ?_))
              go_ret
              exact ⟨rfl, HH6.out, Fr.of_below HBL.out⟩
            · have hr := HR.out
              rw [if_neg hxe] at hr
              have HR := Lib.hid hr
              have hd : decide (X.1 = v) = false := decide_eq_false hxe
              clear hr hxe
              by_cases hee : xw = vw
              · have hr := HR.out
                rw [if_pos hee] at hr
                subst hr
                have hd2 : (xw == vw) = true := by simp [hee]
                clear hee
                go_wp2_with (first | (refine wpList_val rfl (load_vote HX.out.vote (range_part (range_of_blk HOB6.out)).1 rfl rfl) ?_) | (refine wpList_val rfl (load_vote HV.out (range_of_blk HB1.out) rfl rfl) ?_) | (refine wpList_val rfl (vote_eql _ HX.out.vote HV.out rfl rfl rfl) ?_))
                go_ret
                exact ⟨rfl, HH6.out, Fr.of_below HBL.out⟩
              · have hr := HR.out
                rw [if_neg hee] at hr
                subst hr
                have hd2 : (xw == vw) = false := by simp [hee]
                clear hee
                go_wp2_with (first | (refine wpList_val rfl (load_vote HX.out.vote (range_part (range_of_blk HOB6.out)).1 rfl rfl) ?_) | (refine wpList_val rfl (load_vote HV.out (range_of_blk HB1.out) rfl rfl) ?_) | (refine wpList_val rfl (vote_eql _ HX.out.vote HV.out rfl rfl rfl) ?_))
                go_ret
                exact ⟨rfl, HH6.out, Fr.of_below HBL.out⟩
        · go_wp2_with (first | (refine wpList_alloc_big rfl 60 rfl #[.int .i64 0, .int .i64 0] 2 (by kernel_rfl) ?_; intro kb w3 HKB hb3 hbl3 HS3) | (refine wpList_store_big rfl 60 _ _ rfl _ rfl [.int .i64 2, .int .i64 node] rfl _ _ hb3 (by kernel_rfl) rfl (by intro u hu; simp at hu; rcases hu with rfl | rfl <;> rfl) ?_; intro w4 hb4 hf4 HS4))
          have hkb := HKB.out
          have hs3 := HS3.out
          have hs4 := HS4.out
          have hB := HBL.out.size
          have HH4 := Lib.hid ((HH2.out.below hbl3).fr hf4 (by have := HH2.out.blk.lt; omega) (by have := HH2.out.map.lt; omega))
          have HB1 := Lib.hid ((HB1.out.below hbl3).fr hf4 (by omega))
          have HB2 := Lib.hid ((HB2.out.below hbl3).fr hf4 (by omega))
          have hl4 : Below w.heap.size w w4 := (HBL.out.trans (Below.up hbl3 hB)).trans ⟨hf4.os, hf4.tape, hf4.output, hf4.size, fun k hk => hf4.block k (by omega) (by omega)⟩
          have HBL := Lib.hid hl4
          have HKR := Lib.hid (key_range hb4)
          have c1 : w4.cell? ⟨bb, 1, none⟩ = some (.map (some mb)) := HH4.out.blk.cell 1
          have hkl : kb < w4.heap.size := by omega
          have htk : tb < kb := by omega
          have hvl : vb < w4.heap.size := by omega
          have htl : tb < w4.heap.size := by omega
          clear hbl3 hb3 hb4 hf4 hl4 HKB HS3 HS4 hkb hs3 hs4 hB HH2
          refine wp_region_phased (fun W => W.cell? ⟨bb, 1, none⟩ = some (.map (some mb)) ∧ W.rangeAt kb 0 [.int .i64 2, .int .i64 node] ∧ MapV oval W mb M) 12 (by kernel_rfl) ⟨c1, range_below HKR.out (Below.refl _ _).drew, HH4.out.map.below (Below.refl _ _).drew⟩ (fun hS => ?_)
          refine wpAnyP_pure (v := ?_) 0 (at_toArray rfl) (by kernel_rfl) (by kernel_rfl) (by kernel_rfl) (fun _ _ _ h => h) (Or.inl ⟨by rfl, fun W => ?_⟩) ?_
          rotate_left 1
          · (go_simp <;> (try go_bits) <;> with_reducible rfl)
          simp only [Act.put, List.setIfInBounds_toArray, List.set_cons_zero, List.set_cons_succ]
          refine wpAnyP_pure (v := ?_) 1 (at_toArray rfl) (by kernel_rfl) (by kernel_rfl) (by kernel_rfl) (fun _ _ _ h => h) (Or.inl ⟨by rfl, fun W => ?_⟩) ?_
          rotate_left 1
          · (go_simp <;> (try go_bits) <;> with_reducible rfl)
          simp only [Act.put, List.setIfInBounds_toArray, List.set_cons_zero, List.set_cons_succ]
          refine wpAnyP_pure (v := ?_) 2 (at_toArray rfl) (by kernel_rfl) (by kernel_rfl) (by kernel_rfl) (fun _ _ _ h => h) (Or.inl ⟨by rfl, fun W => ?_⟩) ?_
          rotate_left 1
          · (go_simp <;> (try go_bits) <;> with_reducible rfl)
          simp only [Act.put, List.setIfInBounds_toArray, List.set_cons_zero, List.set_cons_succ]
          refine wpAnyP_load (v := ?_) 3 (by kernel_rfl) (at_toArray rfl) (by kernel_rfl) (by kernel_rfl) (by kernel_rfl) (fun _ _ _ h => h) (by first | assumption | rfl) (Or.inl ⟨by rfl, fun W hS => ?_⟩) ?_
          rotate_left 1
          · (obtain ⟨_, _, _⟩ := hS; go_simp <;> (try go_bits) <;> with_reducible rfl)
          simp only [Act.put, List.setIfInBounds_toArray, List.set_cons_zero, List.set_cons_succ]
          refine wpAnyP_load (v := kval (2, node)) 4 (by kernel_rfl) (at_toArray rfl) (by kernel_rfl) (by kernel_rfl) (by kernel_rfl) (fun _ _ _ h => h) (by first | assumption | rfl) (Or.inl ⟨by rfl, fun W hS => (by obtain ⟨_, s, _⟩ := hS; exact load_key s rfl rfl)⟩) ?_
          simp only [Act.put, List.setIfInBounds_toArray, List.set_cons_zero, List.set_cons_succ]
          refine wpAnyP_load (v := .tuple #[oval X, .bool bs]) 5 (by kernel_rfl) (at_toArray rfl) (by kernel_rfl) (by kernel_rfl) (by kernel_rfl) (fun _ _ _ h => h) (by first | assumption | rfl) (Or.inl ⟨by rfl, fun W hS => (by obtain ⟨_, _, s⟩ := hS; exact HL.out _ _ rfl rfl rfl s)⟩) ?_
          simp only [Act.put, List.setIfInBounds_toArray, List.set_cons_zero, List.set_cons_succ]
          refine wpAnyP_pure (v := ?_) 6 (at_toArray rfl) (by kernel_rfl) (by kernel_rfl) (by kernel_rfl) (fun _ _ _ h => h) (Or.inl ⟨by rfl, fun W => ?_⟩) ?_
          rotate_left 1
          · (go_simp <;> (try go_bits) <;> with_reducible rfl)
          simp only [Act.put, List.setIfInBounds_toArray, List.set_cons_zero, List.set_cons_succ]
          refine wpAnyP_pure (v := ?_) 7 (at_toArray rfl) (by kernel_rfl) (by kernel_rfl) (by kernel_rfl) (fun _ _ _ h => h) (Or.inl ⟨by rfl, fun W => ?_⟩) ?_
          rotate_left 1
          · (go_simp <;> (try go_bits) <;> with_reducible rfl)
          simp only [Act.put, List.setIfInBounds_toArray, List.set_cons_zero, List.set_cons_succ]
          refine wpAnyP_pure (v := ?_) 8 (at_toArray rfl) (by kernel_rfl) (by kernel_rfl) (by kernel_rfl) (fun _ _ _ h => h) (Or.inl ⟨by rfl, fun W => ?_⟩) ?_
          rotate_left 1
          · (go_simp <;> (try go_bits) <;> with_reducible rfl)
          simp only [Act.put, List.setIfInBounds_toArray, List.set_cons_zero, List.set_cons_succ]
          refine wpAnyP_one 9 (at_toArray rfl) (by kernel_rfl) rfl (fun K hK => ?_)
          refine wp_alloc_big 62 rfl (ocells zeroX).toArray 52 (by kernel_rfl) fun ob w5 HOB hb5 hbl5 HS5 => ?_
          have hl5 := (Below.refl w4.heap.size w4).drew.trans (Below.up hbl5 (Nat.le_refl _))
          have HH5 := Lib.hid (HH4.out.below hl5)
          have hS5 : w5.cell? ⟨bb, 1, none⟩ = some (.map (some mb)) ∧ w5.rangeAt kb 0 [.int .i64 2, .int .i64 node] ∧ MapV oval w5 mb M := ⟨HH5.out.blk.cell 1, range_below HKR.out hl5, HH5.out.map⟩
          refine hK.out _ _ (fun _ _ => hS5) ?_
          clear hK hS
          refine wpAnyP_one 10 (at_toArray rfl) (by kernel_rfl) rfl (fun K hK => ?_)
          refine wp_store_big 62 _ _ rfl _ rfl (ocells X) rfl _ _ hb5 (sizeOne HX.out) (by rw [ocells_len HX.out]; rfl) (ocells_one _) fun w6 hb6 hf6 HS6 => ?_
          have hob : w4.heap.size = ob := HOB.out
          have hs5 := HS5.out
          have hs6 := HS6.out
          have HH6 := Lib.hid (HH5.out.fr hf6 (by have := HH4.out.blk.lt; omega) (by have := HH4.out.map.lt; omega))
          have hS6 : w6.cell? ⟨bb, 1, none⟩ = some (.map (some mb)) ∧ w6.rangeAt kb 0 [.int .i64 2, .int .i64 node] ∧ MapV oval w6 mb M := ⟨HH6.out.blk.cell 1, range_fr hS5.2.1 hf6 (by omega), HH6.out.map⟩
          refine hK.out _ _ (fun _ _ => hS6) ?_
          clear hK
          refine wpAnyP_pure (v := ?_) 11 (at_toArray rfl) (by kernel_rfl) (by kernel_rfl) (by kernel_rfl) (fun _ _ _ h => h) (Or.inl ⟨by rfl, fun W => ?_⟩) ?_
          rotate_left 1
          · (go_simp <;> (try go_bits) <;> with_reducible rfl)
          simp only [Act.put, List.setIfInBounds_toArray, List.set_cons_zero, List.set_cons_succ]
          refine wpAnyP_done (by kernel_rfl) ?_ _
          have HB1 := Lib.hid ((HB1.out.below hl5).fr hf6 (by omega))
          have HB2 := Lib.hid ((HB2.out.below hl5).fr hf6 (by omega))
          have HBL := Lib.hid ((HBL.out.trans (Below.up hl5 HBL.out.size)).trans (show Below w.heap.size w5 w6 from ⟨hf6.os, hf6.tape, hf6.output, hf6.size, fun k hk => hf6.block k (by have := HBL.out.size; have := hl5.size; omega) (by have := HBL.out.size; omega)⟩))
          have HKR := Lib.hid hS6.2.1
          have HOB6 := Lib.hid hb6
          have hkl : kb < w6.heap.size := by omega
          have hvl : vb < w6.heap.size := by omega
          have htl : tb < w6.heap.size := by omega
          have x2 := (one_cells hb6).2.2.1
          have v2 := (vote_cells HB1.out).2.2.1
          have c1 := hS6.1
          obtain ⟨xw, hxw⟩ : ∃ xw, xw = X.1.view := ⟨_, rfl⟩
          obtain ⟨vw, hvw⟩ : ∃ vw, vw = v.view := ⟨_, rfl⟩
          have hr := HR.out
          rw [← hxw, ← hvw] at hr
          rw [← hxw] at x2
          rw [← hvw] at v2
          have HR := Lib.hid hr
          have HXW := Lib.hid hxw
          have HVW := Lib.hid hvw
          clear hr hxw hvw hb5 hbl5 HOB HS5 hl5 HH5 hS5 hb6 hf6 HS6 hob hs5 hs6 hS6 HH4
          by_cases hup : bs = false ∨ xw < vw
          · have hr := HR.out
            rw [if_pos hup] at hr
            subst hr
            cases bs with
            | false =>
              skip
              clear hup
              go_wp2_with fail
              refine wp_region_phased (fun W => W.cell? ⟨bb, 1, none⟩ = some (.map (some mb)) ∧ W.rangeAt kb 0 [.int .i64 2, .int .i64 node] ∧ W.rangeAt vb 0 (vcells v) ∧ W.rangeAt tb 0 (bv t)) 8 (by kernel_rfl) ⟨c1, range_below HKR.out (Below.refl _ _).drew, range_below (range_of_blk HB1.out) (Below.refl _ _).drew, range_below (range_of_blk HB2.out) (Below.refl _ _).drew⟩ (fun hS => ?_)
              refine wpAnyP_pure (v := ?_) 0 (at_toArray rfl) (by kernel_rfl) (by kernel_rfl) (by kernel_rfl) (fun _ _ _ h => h) (Or.inl ⟨by rfl, fun W => ?_⟩) ?_
              rotate_left 1
              · (go_simp <;> (try go_bits) <;> with_reducible rfl)
              simp only [Act.put, List.setIfInBounds_toArray, List.set_cons_zero, List.set_cons_succ]
              refine wpAnyP_pure (v := ?_) 1 (at_toArray rfl) (by kernel_rfl) (by kernel_rfl) (by kernel_rfl) (fun _ _ _ h => h) (Or.inl ⟨by rfl, fun W => ?_⟩) ?_
              rotate_left 1
              · (go_simp <;> (try go_bits) <;> with_reducible rfl)
              simp only [Act.put, List.setIfInBounds_toArray, List.set_cons_zero, List.set_cons_succ]
              refine wpAnyP_pure (v := ?_) 2 (at_toArray rfl) (by kernel_rfl) (by kernel_rfl) (by kernel_rfl) (fun _ _ _ h => h) (Or.inl ⟨by rfl, fun W => ?_⟩) ?_
              rotate_left 1
              · (go_simp <;> (try go_bits) <;> with_reducible rfl)
              simp only [Act.put, List.setIfInBounds_toArray, List.set_cons_zero, List.set_cons_succ]
              refine wpAnyP_load (v := ?_) 3 (by kernel_rfl) (at_toArray rfl) (by kernel_rfl) (by kernel_rfl) (by kernel_rfl) (fun _ _ _ h => h) (by first | assumption | rfl) (Or.inl ⟨by rfl, fun W hS => ?_⟩) ?_
              rotate_left 1
              · (obtain ⟨_, _, _, _⟩ := hS; go_simp <;> (try go_bits) <;> with_reducible rfl)
              simp only [Act.put, List.setIfInBounds_toArray, List.set_cons_zero, List.set_cons_succ]
              refine wpAnyP_load (v := kval (2, node)) 4 (by kernel_rfl) (at_toArray rfl) (by kernel_rfl) (by kernel_rfl) (by kernel_rfl) (fun _ _ _ h => h) (by first | assumption | rfl) (Or.inl ⟨by rfl, fun W hS => (by obtain ⟨_, s, _, _⟩ := hS; exact load_key s rfl rfl)⟩) ?_
              simp only [Act.put, List.setIfInBounds_toArray, List.set_cons_zero, List.set_cons_succ]
              refine wpAnyP_load (v := vval v) 5 (by kernel_rfl) (at_toArray rfl) (by kernel_rfl) (by kernel_rfl) (by kernel_rfl) (fun _ _ _ h => h) (by first | assumption | rfl) (Or.inl ⟨by rfl, fun W hS => (by obtain ⟨_, _, s, _⟩ := hS; exact load_vote HV.out s rfl rfl)⟩) ?_
              simp only [Act.put, List.setIfInBounds_toArray, List.set_cons_zero, List.set_cons_succ]
              refine wpAnyP_load (v := tval t) 6 (by kernel_rfl) (at_toArray rfl) (by kernel_rfl) (by kernel_rfl) (by kernel_rfl) (fun _ _ _ h => h) (by first | assumption | rfl) (Or.inl ⟨by rfl, fun W hS => (by obtain ⟨_, _, _, s⟩ := hS; exact load_tag HT.out s rfl rfl)⟩) ?_
              simp only [Act.put, List.setIfInBounds_toArray, List.set_cons_zero, List.set_cons_succ]
              refine wpAnyP_load (v := oval (v, t)) 7 (by kernel_rfl) (at_toArray rfl) (by kernel_rfl) (by kernel_rfl) (by kernel_rfl) (fun _ _ _ h => h) (by first | assumption | rfl) (Or.inl ⟨by rfl, fun W hS => (by obtain _ := hS; exact exec_build2 _ _ _ _ _ _ _ rfl rfl rfl _ (built_one HV.out HT.out))⟩) ?_
              simp only [Act.put, List.setIfInBounds_toArray, List.set_cons_zero, List.set_cons_succ]
              refine wpAnyP_one 8 (at_toArray rfl) (by kernel_rfl) rfl (fun K hK => ?_)
              refine wp_put _ _ _ rfl mb rfl (2, node) rfl (v, t) rfl M (HH6.out.map.below (Below.refl _ _).drew) HKI.out HN.out fun w8 hm8 hf8 HS8 => ?_
              refine hK.out _ _ (fun h => absurd h (by decide)) ?_
              clear hK hS
              refine wpAnyP_done (by kernel_rfl) ?_ _
              have hbm := HH6.out.ne
              have HH8 : Hid (BookR w8 bb mb N (putM M (2, node) (v, t))) := Lib.hid ⟨HH6.out.blk.drew.fr hf8 hbm, hm8, fun p hp => (putM_mem hp).elim (fun e => by rw [e]; exact ⟨HV.out, HT.out⟩) (HH6.out.ok p), by have := putM_len M (2, node) (v, t); have := HSM.out; omega⟩
              have HF8 : Hid (Fr (fun k => k = mb) w w8) := Lib.hid ((Fr.of_below (HBL.out.trans (Below.up (Below.refl _ _).drew HBL.out.size))).trans hf8 (fun i h => .inl h))
              clear hm8 hf8 HS8 hbm
              go_wp2_with fail
              go_ret
              rw [← HKD.out]
              exact ⟨rfl, HH8.out, HF8.out⟩
            | true =>
              have hlt : xw < vw := by simpa using hup
              clear hup
              go_wp2_with fail
              refine wp_region_phased (fun W => W.cell? ⟨bb, 1, none⟩ = some (.map (some mb)) ∧ W.rangeAt kb 0 [.int .i64 2, .int .i64 node] ∧ W.rangeAt vb 0 (vcells v) ∧ W.rangeAt tb 0 (bv t)) 8 (by kernel_rfl) ⟨c1, range_below HKR.out (Below.refl _ _).drew, range_below (range_of_blk HB1.out) (Below.refl _ _).drew, range_below (range_of_blk HB2.out) (Below.refl _ _).drew⟩ (fun hS => ?_)
              refine wpAnyP_pure (v := ?_) 0 (at_toArray rfl) (by kernel_rfl) (by kernel_rfl) (by kernel_rfl) (fun _ _ _ h => h) (Or.inl ⟨by rfl, fun W => ?_⟩) ?_
              rotate_left 1
              · (go_simp <;> (try go_bits) <;> with_reducible rfl)
              simp only [Act.put, List.setIfInBounds_toArray, List.set_cons_zero, List.set_cons_succ]
              refine wpAnyP_pure (v := ?_) 1 (at_toArray rfl) (by kernel_rfl) (by kernel_rfl) (by kernel_rfl) (fun _ _ _ h => h) (Or.inl ⟨by rfl, fun W => ?_⟩) ?_
              rotate_left 1
              · (go_simp <;> (try go_bits) <;> with_reducible rfl)
              simp only [Act.put, List.setIfInBounds_toArray, List.set_cons_zero, List.set_cons_succ]
              refine wpAnyP_pure (v := ?_) 2 (at_toArray rfl) (by kernel_rfl) (by kernel_rfl) (by kernel_rfl) (fun _ _ _ h => h) (Or.inl ⟨by rfl, fun W => ?_⟩) ?_
              rotate_left 1
              · (go_simp <;> (try go_bits) <;> with_reducible rfl)
              simp only [Act.put, List.setIfInBounds_toArray, List.set_cons_zero, List.set_cons_succ]
              refine wpAnyP_load (v := ?_) 3 (by kernel_rfl) (at_toArray rfl) (by kernel_rfl) (by kernel_rfl) (by kernel_rfl) (fun _ _ _ h => h) (by first | assumption | rfl) (Or.inl ⟨by rfl, fun W hS => ?_⟩) ?_
              rotate_left 1
              · (obtain ⟨_, _, _, _⟩ := hS; go_simp <;> (try go_bits) <;> with_reducible rfl)
              simp only [Act.put, List.setIfInBounds_toArray, List.set_cons_zero, List.set_cons_succ]
              refine wpAnyP_load (v := kval (2, node)) 4 (by kernel_rfl) (at_toArray rfl) (by kernel_rfl) (by kernel_rfl) (by kernel_rfl) (fun _ _ _ h => h) (by first | assumption | rfl) (Or.inl ⟨by rfl, fun W hS => (by obtain ⟨_, s, _, _⟩ := hS; exact load_key s rfl rfl)⟩) ?_
              simp only [Act.put, List.setIfInBounds_toArray, List.set_cons_zero, List.set_cons_succ]
              refine wpAnyP_load (v := vval v) 5 (by kernel_rfl) (at_toArray rfl) (by kernel_rfl) (by kernel_rfl) (by kernel_rfl) (fun _ _ _ h => h) (by first | assumption | rfl) (Or.inl ⟨by rfl, fun W hS => (by obtain ⟨_, _, s, _⟩ := hS; exact load_vote HV.out s rfl rfl)⟩) ?_
              simp only [Act.put, List.setIfInBounds_toArray, List.set_cons_zero, List.set_cons_succ]
              refine wpAnyP_load (v := tval t) 6 (by kernel_rfl) (at_toArray rfl) (by kernel_rfl) (by kernel_rfl) (by kernel_rfl) (fun _ _ _ h => h) (by first | assumption | rfl) (Or.inl ⟨by rfl, fun W hS => (by obtain ⟨_, _, _, s⟩ := hS; exact load_tag HT.out s rfl rfl)⟩) ?_
              simp only [Act.put, List.setIfInBounds_toArray, List.set_cons_zero, List.set_cons_succ]
              refine wpAnyP_load (v := oval (v, t)) 7 (by kernel_rfl) (at_toArray rfl) (by kernel_rfl) (by kernel_rfl) (by kernel_rfl) (fun _ _ _ h => h) (by first | assumption | rfl) (Or.inl ⟨by rfl, fun W hS => (by obtain _ := hS; exact exec_build2 _ _ _ _ _ _ _ rfl rfl rfl _ (built_one HV.out HT.out))⟩) ?_
              simp only [Act.put, List.setIfInBounds_toArray, List.set_cons_zero, List.set_cons_succ]
              refine wpAnyP_one 8 (at_toArray rfl) (by kernel_rfl) rfl (fun K hK => ?_)
              refine wp_put _ _ _ rfl mb rfl (2, node) rfl (v, t) rfl M (HH6.out.map.below (Below.refl _ _).drew) HKI.out HN.out fun w8 hm8 hf8 HS8 => ?_
              refine hK.out _ _ (fun h => absurd h (by decide)) ?_
              clear hK hS
              refine wpAnyP_done (by kernel_rfl) ?_ _
              have hbm := HH6.out.ne
              have HH8 : Hid (BookR w8 bb mb N (putM M (2, node) (v, t))) := Lib.hid ⟨HH6.out.blk.drew.fr hf8 hbm, hm8, fun p hp => (putM_mem hp).elim (fun e => by rw [e]; exact ⟨HV.out, HT.out⟩) (HH6.out.ok p), by have := putM_len M (2, node) (v, t); have := HSM.out; omega⟩
              have HF8 : Hid (Fr (fun k => k = mb) w w8) := Lib.hid ((Fr.of_below (HBL.out.trans (Below.up (Below.refl _ _).drew HBL.out.size))).trans hf8 (fun i h => .inl h))
              clear hm8 hf8 HS8 hbm
              go_wp2_with fail
              go_ret
              rw [← HKD.out]
              exact ⟨rfl, HH8.out, HF8.out⟩
          · have hbs : bs = true := by cases bs with | true => rfl | false => exact absurd (.inl rfl) hup
            have hlt : ¬ xw < vw := fun h => hup (.inr h)
            subst hbs
            have hr := HR.out
            rw [if_neg hup] at hr
            have HR := Lib.hid hr
            clear hr hup
            by_cases hxe : X.1 = v
            · have hr := HR.out
              rw [if_pos hxe] at hr
              subst hr
              have hd : decide (X.1 = v) = true := decide_eq_true hxe
              clear hxe
              go_wp2_with (first | (refine wpList_val rfl (load_vote HX.out.vote (range_part (range_of_blk HOB6.out)).1 rfl rfl) ?_) | (refine wpList_val rfl (load_vote HV.out (range_of_blk HB1.out) rfl rfl) ?_) | (refine wpList_val rfl (vote_eql _ HX.out.vote HV.out rfl rfl rfl) ?_))
              go_ret
              exact ⟨rfl, HH6.out, Fr.of_below HBL.out⟩
            · have hr := HR.out
              rw [if_neg hxe] at hr
              have HR := Lib.hid hr
              have hd : decide (X.1 = v) = false := decide_eq_false hxe
              clear hr hxe
              by_cases hee : xw = vw
              · have hr := HR.out
                rw [if_pos hee] at hr
                subst hr
                have hd2 : (xw == vw) = true := by simp [hee]
                clear hee
                go_wp2_with (first | (refine wpList_val rfl (load_vote HX.out.vote (range_part (range_of_blk HOB6.out)).1 rfl rfl) ?_) | (refine wpList_val rfl (load_vote HV.out (range_of_blk HB1.out) rfl rfl) ?_) | (refine wpList_val rfl (vote_eql _ HX.out.vote HV.out rfl rfl rfl) ?_))
                go_ret
                exact ⟨rfl, HH6.out, Fr.of_below HBL.out⟩
              · have hr := HR.out
                rw [if_neg hee] at hr
                subst hr
                have hd2 : (xw == vw) = false := by simp [hee]
                clear hee
                go_wp2_with (first | (refine wpList_val rfl (load_vote HX.out.vote (range_part (range_of_blk HOB6.out)).1 rfl rfl) ?_) | (refine wpList_val rfl (load_vote HV.out (range_of_blk HB1.out) rfl rfl) ?_) | (refine wpList_val rfl (vote_eql _ HX.out.vote HV.out rfl rfl rfl) ?_))
                go_ret
                exact ⟨rfl, HH6.out, Fr.of_below HBL.out⟩
      · have hr := HR.out
        rw [if_pos (by rw [← HKD.out]; omega)] at hr
        subst hr
        have h4 : (kind != 1) = true := by simp; omega
        have h5 : (kind != 2) = true := by simp; omega
        go_wp2_with fail
        go_ret
        exact ⟨rfl, HH2.out, Fr.of_below HBL.out⟩

end Go.Proofs.Ytpbcpocheblbfaa
