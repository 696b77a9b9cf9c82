/- The walk of the votes' book: Cert. -/
import Derived.Test.YtpbcpocheblbfaaVotH
import Derived.Laws.ResultCell
namespace Go.Proofs.Ytpbcpocheblbfaa
set_option linter.unusedVariables false
set_option linter.unusedSimpArgs false
open Go.RowKit Go.MapKept

def certOk (M : List (Ent One)) (v : Vt) (N : Nat) (need : Int) : Bool := decide (1 ≤ need) && decide (need ≤ ((signsP M v N).length : Int))
def certL (M : List (Ent One)) (v : Vt) (N : Nat) (need : Int) : List Sg := if certOk M v N need then (signsP M v N).take need.toNat else []
def certV (M : List (Ent One)) (v : Vt) (N : Nat) (need : Int) : Vt := if certOk M v N need then v else zeroV
def CertPost (w : World) (u : Vt) (L : List Sg) (b : Bool) (e : Ending) (w' : World) : Prop := ∃ A c, e = .returned (.tuple #[cval u (.slice A L.length c), .bool b]) ∧ SR w' A L ∧ (∀ a, A = some a → 0 < L.length → w.heap.size ≤ a.block) ∧ Below w.heap.size w w'
theorem exec_build0 {o : Oper} {w : World} {ρ : Operand → Value} (t : TypeId) (ho : o.op = .build t #[]) (cells : Array Value) (hf : Try.prog.built t [] = some cells) : (execOp ρ o).run Try.prog w = .ok (.value (.agg cells)) w :=
  exec_build t _ ho cells (by simpa using hf)
theorem exec_build1 {o : Oper} {w : World} {ρ : Operand → Value} (t : TypeId) (i0 : Nat) (x0 : Operand) (v0 : Value) (ho : o.op = .build t #[(i0, x0)]) (h0 : ρ x0 = v0) (cells : Array Value) (hf : Try.prog.built t [(i0, v0)] = some cells) : (execOp ρ o).run Try.prog w = .ok (.value (.agg cells)) w :=
  exec_build t _ ho cells (by simpa [h0] using hf)
theorem ccells_len {v : Vt} (h : v.ok) (s : Value) : (ccells v s).length = 37 := by simp [ccells, vcells_len h]
theorem ccells_one (v : Vt) {s : Value} (hs : s.oneCell' = true) : ∀ u ∈ ccells v s, u.oneCell' = true := fun u hu => (List.mem_append.1 hu).elim (vcells_one v u) (fun h => by rw [List.mem_singleton.1 h]; exact hs)
theorem sizeCert {v : Vt} (h : v.ok) (s : Value) : (Try.prog.info? 39).map (·.size) = some (ccells v s).length := by rw [ccells_len h]; kernel_rfl
theorem ccell36 {w : World} {b : Nat} {v : Vt} {s : Value} {t : TypeId} (hv : v.ok) (h : Blk w b (ccells v s).toArray t) : w.cell? ⟨b, 36, none⟩ = some s := by
  rw [h.cell 36]
  simp [ccells, vcells_len hv]
theorem cset36 {w : World} {b : Nat} {v : Vt} {s s' : Value} {t : TypeId} (hv : v.ok) (h : Blk w b (ccells v s).toArray t) : Blk (w.setCell ⟨b, 36, none⟩ s') b (ccells v s').toArray t := by
  have := h.set 36 s'
  rw [show (ccells v s).toArray.setIfInBounds 36 s' = (ccells v s').toArray by
    simp [ccells, List.set_append, vcells_len hv]] at this
  exact this
theorem results_ct {fn : Func} {p u : Tmp} {ty : TypeId} (h : fn.results = #[.cell p ty, .tmp u]) {tmps : Array Value} {w : World} {a1 : Addr} {v1 : Value}
    (h1 : tmps.getD p undef = .pointer (some a1)) (l1 : (loadVar ty a1).run Try.prog w = .ok v1 w) : (results fn tmps).run Try.prog w = .ok (.tuple #[v1, tmps.getD u undef]) w := by
  rw [results_cell_tmp h]
  rw [h1]
  simp [asAddr, l1, Result.andThen]
theorem var_cert {w : World} {b off : Nat} {v : Vt} {s : Value} (hv : v.ok) (hc : w.rangeAt b off (ccells v s)) : (loadVar 39 ⟨b, off, none⟩).run Try.prog w = .ok (cval v s) w := run_loadVar_mid w b off _ _ _ hc Try.underlying39 rfl (sizeCert hv s)
theorem load_cert {o : Oper} {w : World} {ρ : Operand → Value} {x : Operand} {b off : Nat} {v : Vt} {s : Value} (hv : v.ok) (hc : w.rangeAt b off (ccells v s)) (ho : o.op = .load 39 x) (hx : ρ x = .pointer (some ⟨b, off, none⟩)) : (execOp ρ o).run Try.prog w = .ok (.value (cval v s)) w :=
  exec_load _ x ho b off hx _ _ hc Try.underlying39 rfl (sizeCert hv s)
theorem below_fr {w0 w w' : World} {b : Nat} (h : Below w0.heap.size w0 w) (hf : Fr (fun k => k = b) w w') (hb : w0.heap.size ≤ b) : Below w0.heap.size w0 w' := Fr.below h hf (fun k hk => by omega)
theorem hit_eq (M : List (Ent One)) (v : Vt) (i : Nat) : hit M v i = if (lookM M (v.kind, (i : Int))).isSome = true ∧ (lookX M (v.kind, (i : Int))).1 = v then some ((i : Int), (lookX M (v.kind, (i : Int))).2) else none := by
  unfold hit lookX
  cases lookM M (v.kind, (i : Int)) <;> simp
theorem grown_blk {w w' : World} {row : Option Nat} {b : Nat} {cs : Array Value} {t : TypeId} (h : Blk w b cs t) (hg : w.grownBy w' row) (hn : row ≠ some b) : Blk w' b cs t := (hg.block b h.lt (fun e => hn e.symm)).trans h
set_option maxRecDepth 100000 in
set_option maxHeartbeats 8000000 in
theorem cert_any (w : World) {bb mb N : Nat} {M : List (Ent One)} (h : BookR w bb mb (N : Int) M) (hN : N ≤ 64) (v : Vt) (hv : v.ok) (need : Int) :
    Calls Try.prog 10 #[.pointer (some ⟨bb, 0, none⟩), vval v, .int .i64 need] w (CertPost w (certV M v N need) (certL M v N need) (certOk M v N need)) := by
  obtain ⟨u, hu⟩ : ∃ u, u = certV M v N need := ⟨_, rfl⟩
  obtain ⟨R, hR⟩ : ∃ R, R = certL M v N need := ⟨_, rfl⟩
  obtain ⟨ok, hok⟩ : ∃ ok, ok = certOk M v N need := ⟨_, rfl⟩
  rw [← hu, ← hR, ← hok]
  unfold certV at hu
  unfold certL at hR
  rw [← hok] at hu hR
  unfold certOk at hok
  have HU := Lib.hid hu
  have HRR := Lib.hid hR
  have HOK := Lib.hid hok
  have H := Lib.hid h
  have HV := Lib.hid hv
  clear hu hR hok h hv
  go_enter Try.func10, Try.ntmps10
  go_wp2_with (first | (refine wpList_box_big rfl 30 _ rfl _ rfl ?_; intro vb w1 HVB hb1 hbl1 HS1) | (refine wpList_alloc_big rfl 39 rfl (ccells zeroV (.slice none 0 0)).toArray 37 (by kernel_rfl) ?_; intro rb w2 HRB hb2 hbl2 HS2))
  have hs1 := HS1.out
  have hs2 := HS2.out
  have hvb := HVB.out
  have hrb := HRB.out
  have HH2 := Lib.hid ((H.out.below hbl1).below hbl2)
  have HBL := Lib.hid (hbl1.trans (Below.up hbl2 (by omega)))
  have HB1 := Lib.hid (hb1.below hbl2)
  have HB2 := Lib.hid hb2
  have hvr : vb < rb := by omega
  have hvl : vb < w2.heap.size := by omega
  have hrl : rb < w2.heap.size := by omega
  have hws : w.heap.size ≤ vb := by omega
  have hbw : bb < vb := by have := H.out.blk.lt; omega
  have hmw : mb < vb := by have := H.out.map.lt; omega
  clear hbl1 hbl2 hb1 hb2 H hs1 hs2 hvb hrb HS1 HS2 HVB HRB
  refine (none_ok w2 HH2.out).mono ?_
  rintro e w' ⟨rfl, rfl⟩
  by_cases hneed : need < 1
  · have hok : ok = false := by rw [HOK.out]; simp; omega
    subst hok
    have hu := HU.out
    have hR := HRR.out
    simp only [Bool.false_eq_true, if_false] at hu hR
    subst hu
    subst hR
    go_wp2_with (first | (refine wpList_val rfl (exec_build0 _ rfl _ built_cert0) ?_) | (refine wpList_store_big rfl 39 _ _ rfl _ rfl (ccells zeroV (.slice none 0 0)) rfl _ _ HB2.out (sizeCert zeroV_ok _) (by rw [ccells_len zeroV_ok]; rfl) (ccells_one _ rfl) ?_; intro w3 hb3 hf3 HS3))
    refine bodyPost_ret (results_ct rfl rfl (var_cert zeroV_ok (range_of_blk hb3))) rfl ?_
    exact ⟨none, 0, rfl, SR.nil _ _, (fun a ha => (by cases ha)), below_fr HBL.out hf3 (by omega)⟩
  · have hneed' : 1 ≤ need := by omega
    go_wp2_with (first | (refine wpList_val rfl (load_vote HV.out (range_of_blk HB1.out) rfl rfl) ?_) | (refine wpList_val rfl (exec_build1 _ _ _ _ rfl rfl _ (built_cert HV.out)) ?_) | (refine wpList_alloc_big rfl 39 rfl (ccells zeroV (.slice none 0 0)).toArray 37 (by kernel_rfl) ?_; intro cb w3 HCB hb3 hbl3 HS3) | (refine wpList_store_big rfl 39 _ _ rfl _ rfl (ccells v (.slice none 0 0)) rfl _ _ hb3 (sizeCert HV.out _) (by rw [ccells_len HV.out]; rfl) (ccells_one _ rfl) ?_; intro w4 hb4 hf4 HS4))
    have hcb := HCB.out
    have hs3 := HS3.out
    have hs4 := HS4.out
    have HH4 := Lib.hid ((HH2.out.below hbl3).fr hf4 (by omega) (by omega))
    have HB1 := Lib.hid ((HB1.out.below hbl3).fr hf4 (by omega))
    have HB2 := Lib.hid ((HB2.out.below hbl3).fr hf4 (by omega))
    have HBL := Lib.hid (below_fr (HBL.out.trans (Below.up hbl3 HBL.out.size)) hf4 (by omega))
    have HB4 := Lib.hid hb4
    have hrc : rb < cb := by omega
    have HSZ4 := Lib.hid (show cb < w4.heap.size by omega)
    clear hcb hs3 hs4 hbl3 hb3 hb4 hf4 HCB HS3 HS4 HH2
    go_loopw [9] (fun nv wr => ∃ (k : Nat) (s : Value), k ≤ N ∧ nv = .int .i64 (k : Int) ∧ Hid (Blk wr cb (ccells v s).toArray 39) ∧ Hid (SO w.heap.size wr s (signsP M v k)) ∧ ((signsP M v k).length : Int) ≤ need ∧ Hid (∀ i, s.ownBlock = some i → cb < i) ∧ Hid (BookR wr bb mb (N : Int) M) ∧ Hid (Blk wr vb (vcells v).toArray 30) ∧ Hid (Blk wr rb (ccells zeroV (.slice none 0 0)).toArray 39) ∧ Hid (Below w.heap.size w wr) ∧ Hid (cb < wr.heap.size)) (fun nv _ => N - (intOf nv).toNat)
    case atStart => exact ⟨0, .slice none 0 0, Nat.zero_le _, rfl, HB4, Lib.hid (SO.nil _ _), by simp [signsP]; omega, Lib.hid (fun i h => by simp [Value.ownBlock] at h), HH4, HB1, HB2, HBL, HSZ4⟩
    case round =>
      clear HB4 HH4 HB1 HB2 HBL HSZ4
      obtain ⟨k, s, hk, rfl, HC, HSO, hle, HSB, HH, HB1, HB2, HBL, HSZ⟩ := hrel
      have c0 : wr.cell? ⟨bb, 0, none⟩ = some (.int .i64 (N : Int)) := HH.out.blk.cell 0
      obtain ⟨A, c, hs⟩ := HSO.out.form
      subst hs
      obtain ⟨q, hq⟩ : ∃ q, q = (signsP M v k).length := ⟨_, rfl⟩
      rw [← hq] at hle HC HSO HSB
      have c36 := ccell36 HV.out HC.out
      have HQ := Lib.hid hq
      clear hq
      by_cases hlt : k < N
      · by_cases hqn : (q : Int) < need
        · have l1 : (k : Int) < (N : Int) := by omega
          go_wp2_with fail
          obtain ⟨X, hX⟩ : ∃ X, X = lookX M (v.kind, (k : Int)) := ⟨_, rfl⟩
          obtain ⟨bs, hbs⟩ : ∃ bs, bs = (lookM M (v.kind, (k : Int))).isSome := ⟨_, rfl⟩
          have hhit := hit_eq M v k
          rw [← hX, ← hbs] at hhit
          have HX : Hid X.ok := Lib.hid (by rw [hX]; exact lookX_ok HH.out.ok _)
          obtain ⟨kd, hkd⟩ : ∃ kd, kd = v.kind := ⟨_, rfl⟩
          have HL : Hid (∀ {o : Oper} {w : World} {ρ : Operand → Value} (m x : Operand) (ho : o.op = .lookup 53 m x true) (hm : ρ m = .map (some mb)) (hx : ρ x = kval (kd, (k : Int))) (hM : MapV oval w mb M), (execOp ρ o).run Try.prog w = .ok (.value (.tuple #[oval X, .bool bs])) w) := Lib.hid fun m x ho hm hx hM => by
            rw [exec_lookX m x ho mb hm (kd, (k : Int)) hx M hM (by rw [hkd]; exact HV.out.kind) (i64_of (by simp only; omega) (by simp only; omega)), hX, hbs, hkd]
          have k0 := (vote_cells HB1.out).1
          rw [← hkd] at k0
          have c1 : wr.cell? ⟨bb, 1, none⟩ = some (.map (some mb)) := HH.out.blk.cell 1
          have HHIT := Lib.hid hhit
          have hsucc := signsP_succ M v k
          have HSC := Lib.hid hsucc
          have hsz := HSZ.out
          clear hX hbs hhit hkd hsucc c0 c36
          refine wp_region_phased (fun W => W.cell? ⟨bb, 1, none⟩ = some (.map (some mb)) ∧ W.cell? ⟨vb, 0, none⟩ = some (.int .i64 kd) ∧ MapV oval W mb M) 15 (by kernel_rfl) ⟨c1, k0, HH.out.map.below (Below.refl _ _).drew⟩ (fun hS => ?_)
          refine wpAnyP_pure (v := ?_) 0 (at_toArray rfl) (by kernel_rfl) (by kernel_rfl) (by kernel_rfl) (fun _ _ _ h => h) (Or.inl ⟨by rfl, fun W => ?_⟩) ?_
          rotate_left 1
          · (go_simp <;> (try go_bits) <;> with_reducible rfl)
          simp only [Act.put, List.setIfInBounds_toArray, List.set_cons_zero, List.set_cons_succ]
          refine wpAnyP_pure (v := ?_) 1 (at_toArray rfl) (by kernel_rfl) (by kernel_rfl) (by kernel_rfl) (fun _ _ _ h => h) (Or.inl ⟨by rfl, fun W => ?_⟩) ?_
          rotate_left 1
          · (go_simp <;> (try go_bits) <;> with_reducible rfl)
          simp only [Act.put, List.setIfInBounds_toArray, List.set_cons_zero, List.set_cons_succ]
          refine wpAnyP_pure (v := ?_) 2 (at_toArray rfl) (by kernel_rfl) (by kernel_rfl) (by kernel_rfl) (fun _ _ _ h => h) (Or.inl ⟨by rfl, fun W => ?_⟩) ?_
          rotate_left 1
          · (go_simp <;> (try go_bits) <;> with_reducible rfl)
          simp only [Act.put, List.setIfInBounds_toArray, List.set_cons_zero, List.set_cons_succ]
          refine wpAnyP_load (v := ?_) 3 (by kernel_rfl) (at_toArray rfl) (by kernel_rfl) (by kernel_rfl) (by kernel_rfl) (fun _ _ _ h => h) (by first | assumption | rfl) (Or.inl ⟨by rfl, fun W hS => ?_⟩) ?_
          rotate_left 1
          · (obtain ⟨_, _, _⟩ := hS; go_simp <;> (try go_bits) <;> with_reducible rfl)
          simp only [Act.put, List.setIfInBounds_toArray, List.set_cons_zero, List.set_cons_succ]
          refine wpAnyP_pure (v := ?_) 4 (at_toArray rfl) (by kernel_rfl) (by kernel_rfl) (by kernel_rfl) (fun _ _ _ h => h) (Or.inl ⟨by rfl, fun W => ?_⟩) ?_
          rotate_left 1
          · (go_simp <;> (try go_bits) <;> with_reducible rfl)
          simp only [Act.put, List.setIfInBounds_toArray, List.set_cons_zero, List.set_cons_succ]
          refine wpAnyP_load (v := ?_) 5 (by kernel_rfl) (at_toArray rfl) (by kernel_rfl) (by kernel_rfl) (by kernel_rfl) (fun _ _ _ h => h) (by first | assumption | rfl) (Or.inl ⟨by rfl, fun W hS => ?_⟩) ?_
          rotate_left 1
          · (obtain ⟨_, _, _⟩ := hS; go_simp <;> (try go_bits) <;> with_reducible rfl)
          simp only [Act.put, List.setIfInBounds_toArray, List.set_cons_zero, List.set_cons_succ]
          refine wpAnyP_pure (v := ?_) 6 (at_toArray rfl) (by kernel_rfl) (by kernel_rfl) (by kernel_rfl) (fun _ _ _ h => h) (Or.inl ⟨by rfl, fun W => ?_⟩) ?_
          rotate_left 1
          · (go_simp <;> (try go_bits) <;> with_reducible rfl)
          simp only [Act.put, List.setIfInBounds_toArray, List.set_cons_zero, List.set_cons_succ]
          refine wpAnyP_load (v := kval (kd, (k : Int))) 7 (by kernel_rfl) (at_toArray rfl) (by kernel_rfl) (by kernel_rfl) (by kernel_rfl) (fun _ _ _ h => h) (by first | assumption | rfl) (Or.inl ⟨by rfl, fun W hS => (by obtain _ := hS; exact exec_build2 _ _ _ _ _ _ _ rfl rfl rfl _ (built_key _ _))⟩) ?_
          simp only [Act.put, List.setIfInBounds_toArray, List.set_cons_zero, List.set_cons_succ]
          refine wpAnyP_load (v := .tuple #[oval X, .bool bs]) 8 (by kernel_rfl) (at_toArray rfl) (by kernel_rfl) (by kernel_rfl) (by kernel_rfl) (fun _ _ _ h => h) (by first | assumption | rfl) (Or.inl ⟨by rfl, fun W hS => (by obtain ⟨_, _, s⟩ := hS; exact HL.out _ _ rfl rfl rfl s)⟩) ?_
          simp only [Act.put, List.setIfInBounds_toArray, List.set_cons_zero, List.set_cons_succ]
          refine wpAnyP_pure (v := ?_) 9 (at_toArray rfl) (by kernel_rfl) (by kernel_rfl) (by kernel_rfl) (fun _ _ _ h => h) (Or.inl ⟨by rfl, fun W => ?_⟩) ?_
          rotate_left 1
          · (go_simp <;> (try go_bits) <;> with_reducible rfl)
          simp only [Act.put, List.setIfInBounds_toArray, List.set_cons_zero, List.set_cons_succ]
          refine wpAnyP_pure (v := ?_) 10 (at_toArray rfl) (by kernel_rfl) (by kernel_rfl) (by kernel_rfl) (fun _ _ _ h => h) (Or.inl ⟨by rfl, fun W => ?_⟩) ?_
          rotate_left 1
          · (go_simp <;> (try go_bits) <;> with_reducible rfl)
          simp only [Act.put, List.setIfInBounds_toArray, List.set_cons_zero, List.set_cons_succ]
          refine wpAnyP_pure (v := ?_) 11 (at_toArray rfl) (by kernel_rfl) (by kernel_rfl) (by kernel_rfl) (fun _ _ _ h => h) (Or.inl ⟨by rfl, fun W => ?_⟩) ?_
          rotate_left 1
          · (go_simp <;> (try go_bits) <;> with_reducible rfl)
          simp only [Act.put, List.setIfInBounds_toArray, List.set_cons_zero, List.set_cons_succ]
          refine wpAnyP_one 12 (at_toArray rfl) (by kernel_rfl) rfl (fun K hK => ?_)
          refine wp_alloc_big 62 rfl (ocells zeroX).toArray 52 (by kernel_rfl) fun ob w5 HOB hb5 hbl5 HS5 => ?_
          have hl5 := (Below.refl wr.heap.size wr).drew.trans (Below.up hbl5 (Nat.le_refl _))
          have hS5 : w5.cell? ⟨bb, 1, none⟩ = some (.map (some mb)) ∧ w5.cell? ⟨vb, 0, none⟩ = some (.int .i64 kd) ∧ MapV oval w5 mb M := ⟨(HH.out.below hl5).blk.cell 1, by have := (vote_cells (HB1.out.below hl5)).1; rw [this]; rw [(vote_cells HB1.out).1] at k0; exact k0, (HH.out.below hl5).map⟩
          refine hK.out _ _ (fun _ _ => hS5) ?_
          clear hK hS
          refine wpAnyP_one 13 (at_toArray rfl) (by kernel_rfl) rfl (fun K hK => ?_)
          refine wp_store_big 62 _ _ rfl _ rfl (ocells X) rfl _ _ hb5 (sizeOne HX.out) (by rw [ocells_len HX.out]; rfl) (ocells_one _) fun w6 hb6 hf6 HS6 => ?_
          have hob : wr.heap.size = ob := HOB.out
          have hs5 := HS5.out
          have hs6 := HS6.out
          have HH6 := Lib.hid ((HH.out.below hl5).fr hf6 (by omega) (by omega))
          have HB16 := Lib.hid ((HB1.out.below hl5).fr hf6 (by omega))
          have hS6 : w6.cell? ⟨bb, 1, none⟩ = some (.map (some mb)) ∧ w6.cell? ⟨vb, 0, none⟩ = some (.int .i64 kd) ∧ MapV oval w6 mb M := ⟨HH6.out.blk.cell 1, by have := (vote_cells HB16.out).1; rw [this]; rw [(vote_cells (HB1.out)).1] at k0; exact k0, HH6.out.map⟩
          refine hK.out _ _ (fun _ _ => hS6) ?_
          clear hK
          refine wpAnyP_pure (v := ?_) 14 (at_toArray rfl) (by kernel_rfl) (by kernel_rfl) (by kernel_rfl) (fun _ _ _ h => h) (Or.inl ⟨by rfl, fun W => ?_⟩) ?_
          rotate_left 1
          · (go_simp <;> (try go_bits) <;> with_reducible rfl)
          simp only [Act.put, List.setIfInBounds_toArray, List.set_cons_zero, List.set_cons_succ]
          refine wpAnyP_done (by kernel_rfl) ?_ _
          have HB26 := Lib.hid ((HB2.out.below hl5).fr hf6 (by omega))
          have HC6 := Lib.hid ((HC.out.below hl5).fr hf6 (by omega))
          have HSO6 := Lib.hid ((HSO.out.below hl5).fr hf6 (fun i hi => by have := (HSO.out.lt i hi).2.1; omega))
          have HBL6 := Lib.hid (below_fr (HBL.out.trans (Below.up hl5 HBL.out.size)) hf6 (by omega))
          have HOB6 := Lib.hid hb6
          have hsz6 : cb < ob ∧ ob < w6.heap.size := by omega
          obtain ⟨hco, hol⟩ := hsz6
          clear hb5 hbl5 HOB HS5 hl5 hS5 hb6 hf6 HS6 hob hs5 hs6 hS6 HH HB1 HB2 HC HSO HBL k0 c1 HSZ hsz
          have hfin : ∀ (W : World), Blk W cb (ccells v (.slice A q c)).toArray 39 → hit M v k = none → Hid (signsP M v (k + 1) = signsP M v k) := fun W _ h => Lib.hid (by rw [HSC.out, h]; simp)
          cases bs with
          | false =>
            have hnone : hit M v k = none := by rw [HHIT.out]; simp
            have HNX := hfin w6 HC6.out hnone
            clear hfin hnone HL
            go_wp2_with fail
            try go_frame
            go_roundw
            case rel => exact ⟨k + 1, .slice A q c, hlt, by go_num, HC6, by rw [HNX.out]; exact HSO6, by rw [HNX.out, ← HQ.out]; omega, HSB, HH6, HB16, HB26, HBL6, Lib.hid (by omega)⟩
            case measure => simp [intOf]; omega
          | true =>
            by_cases hxe : X.1 = v
            · have hd : decide (X.1 = v) = true := decide_eq_true hxe
              have hsome : hit M v k = some ((k : Int), X.2) := by rw [HHIT.out, if_pos ⟨rfl, hxe⟩]
              have HNX : Hid (signsP M v (k + 1) = signsP M v k ++ [((k : Int), X.2)]) := Lib.hid (by rw [HSC.out, hsome]; rfl)
              have c36 := ccell36 HV.out HC6.out
              clear hfin hsome hxe HL
              have HSL : Hid ((signsP M v k).length ≤ 1000000) := Lib.hid (by have := signsP_len M v k; omega)
              have HQ2 := HQ
              go_wp2_with (first | (refine wpList_valG rfl (load_vote HX.out.vote (range_part (range_of_blk HOB6.out)).1 rfl rfl) ?_) | (refine wpList_valG rfl (load_vote HV.out (range_of_blk HB16.out) rfl rfl) ?_) | (refine wpList_valG rfl (vote_eql _ HX.out.vote HV.out rfl rfl rfl) ?_) | (refine wpList_val rfl (load_tag HX.out.tag (by have := (range_part (range_of_blk HOB6.out)).2; rw [vcells_len HX.out.vote] at this; exact this) rfl rfl) ?_) | (refine wpList_val rfl (exec_build2 _ _ _ _ _ _ _ rfl rfl rfl _ (built_sign HX.out.tag)) ?_) | (refine wpList_bslice_sign rfl _ rfl (k : Int) X.2 rfl HX.out.tag ?_; intro ab w7 HAB hb7 hbl7 HS7) | (refine wpList_append_sign rfl _ _ rfl w.heap.size _ (signsP M v k) rfl (HSO6.out.below hbl7) ab rfl (k : Int) X.2 HX.out.tag hb7 HSL.out (Nat.le_trans HBL6.out.size hbl7.size) ?_; intro s' w8 hO8 hg8 ha8; obtain ⟨A9, n9, c9, rfl⟩ := hO8.form2; have e36 := ccell36 HV.out (grown_blk (HC6.out.below hbl7) hg8 (fun e => by have := HSB.out cb e; omega)); have f36 := (grown_blk (HC6.out.below hbl7) hg8 (fun e => by have := HSB.out cb e; omega)).free 36))
              have hab := HAB.out
              have hs7 := HS7.out
              have hcb7 : ∀ i, (Value.slice A q c).ownBlock = some i → cb < i := HSB.out
              have hF8 : Fr (fun i => (Value.slice A q c).ownBlock = some i) w7 w8 := Fr.grown hg8 (fun k hk => hk)
              have hF9 : ∀ (x : Value), Fr (fun i => (Value.slice A q c).ownBlock = some i ∨ i = cb) w7 (w8.setCell ⟨cb, 36, none⟩ x) := fun x => (hF8.mono (fun i h => .inl (.inl h))).trans (Fr.setCell (fun i => i = cb) w8 ⟨cb, 36, none⟩ x rfl) (fun i h => .inl (.inr h))
              have hnb : ∀ b, b < cb → ¬ ((Value.slice A q c).ownBlock = some b ∨ b = cb) := fun b hb h => h.elim (fun h => by have := hcb7 b h; omega) (fun h => by omega)
              have HC9 : Hid (Blk (w8.setCell ⟨cb, 36, none⟩ (.slice A9 n9 c9)) cb (ccells v (.slice A9 n9 c9)).toArray 39) := Lib.hid (cset36 HV.out (grown_blk (HC6.out.below hbl7) hg8 (fun e => by have := hcb7 cb e; omega)))
              have hown' : ∀ i, (Value.slice A9 n9 c9).ownBlock = some i → cb < i := fun i hi => by
                rcases ha8 with h | h
                · rw [h] at hi; exact hcb7 i hi
                · rw [h] at hi; cases hi; omega
              have HSO9 : Hid (SO w.heap.size (w8.setCell ⟨cb, 36, none⟩ (.slice A9 n9 c9)) (.slice A9 n9 c9) (signsP M v (k + 1))) := Lib.hid (by
                rw [HNX.out]
                exact SO.fr hO8 (Fr.setCell (fun i => i = cb) w8 ⟨cb, 36, none⟩ (.slice A9 n9 c9) rfl) (fun i hi e => by have := hown' i hi; omega))
              have HH9 := Lib.hid ((HH6.out.below hbl7).fr (hF9 (.slice A9 n9 c9)) (hnb bb (by omega)) (hnb mb (by omega)))
              have HB19 := Lib.hid ((HB16.out.below hbl7).fr (hF9 (.slice A9 n9 c9)) (hnb vb (by omega)))
              have HB29 := Lib.hid ((HB26.out.below hbl7).fr (hF9 (.slice A9 n9 c9)) (hnb rb (by omega)))
              have HBL9 := Lib.hid (Fr.below (HBL6.out.trans (Below.up hbl7 HBL6.out.size)) (hF9 (.slice A9 n9 c9)) (fun i hi => hi.elim (fun h => by have := hcb7 i h; omega) (fun h => by omega)))
              have HOW := Lib.hid hown'
              have HSZ9 : Hid (cb < (w8.setCell ⟨cb, 36, none⟩ (.slice A9 n9 c9)).heap.size) := Lib.hid (HC9.out.lt)
              clear hab hs7 hcb7 hF8 hF9 hnb hown' hO8 hg8 ha8 hb7 hbl7 HAB HS7 e36 f36 HSO6 HC6 HB16 HB26 HBL6 HOB6 HH6 c36
              generalize w8.setCell _ _ = w9 at *
              go_wp2_with fail
              try go_frame
              go_roundw
              case rel => exact ⟨k + 1, .slice A9 n9 c9, hlt, by go_num, HC9, HSO9, by rw [HNX.out, List.length_append, ← HQ2.out]; simp only [List.length_cons, List.length_nil]; omega, HOW, HH9, HB19, HB29, HBL9, HSZ9⟩
              case measure => simp [intOf]; omega
            · have hd : decide (X.1 = v) = false := decide_eq_false hxe
              have hnone : hit M v k = none := by rw [HHIT.out]; simp [hxe]
              have HNX := hfin w6 HC6.out hnone
              clear hfin hnone hxe HL
              go_wp2_with (first | (refine wpList_valG rfl (load_vote HX.out.vote (range_part (range_of_blk HOB6.out)).1 rfl rfl) ?_) | (refine wpList_valG rfl (load_vote HV.out (range_of_blk HB16.out) rfl rfl) ?_) | (refine wpList_valG rfl (vote_eql _ HX.out.vote HV.out rfl rfl rfl) ?_))
              try go_frame
              go_roundw
              case rel => exact ⟨k + 1, .slice A q c, hlt, by go_num, HC6, by rw [HNX.out]; exact HSO6, by rw [HNX.out, ← HQ.out]; omega, HSB, HH6, HB16, HB26, HBL6, Lib.hid (by omega)⟩
              case measure => simp [intOf]; omega
        · have l1 : (k : Int) < (N : Int) := by omega
          have hb2 := HB2.out
          have hqe : (q : Int) = need := by omega
          have hpre := signsP_pre M v hk
          have hlen := hpre.length_le
          have hok : ok = true := by rw [HOK.out]; simp; have := HQ.out; omega
          subst hok
          have hu := HU.out
          have hR := HRR.out
          simp only [if_true] at hu hR
          rw [show need.toNat = (signsP M v k).length by have := HQ.out; omega, ← List.prefix_iff_eq_take.1 hpre] at hR
          subst hu
          subst hR
          have HSK := Lib.hid (signsP_ok HH.out.ok u k)
          clear hpre hlen hqe
          go_wp2_with (first | (refine wpList_val rfl (load_cert HV.out (range_of_blk HC.out) rfl rfl) ?_) | (refine wpList_store_big rfl 39 _ _ rfl _ rfl (ccells u (.slice A q c)) rfl _ _ HB2.out (sizeCert HV.out _) (by rw [ccells_len HV.out]; rfl) (ccells_one _ rfl) ?_; intro w3 hb3 hf3 HS3))
          refine bodyPost_ret (results_ct rfl rfl (var_cert HV.out (range_of_blk hb3))) rfl ?_
          have hso := HSO.out.fr hf3 (fun i hi e => by have := HSB.out i hi; omega)
          obtain ⟨A', c', e1, e2, e3, e4⟩ := hso.reads HSK.out
          cases e1
          exact ⟨A, c, rfl, e2, e4, below_fr HBL.out hf3 (by omega)⟩
      · have hkN0 : k = N := by omega
        have hb2 := HB2.out
        by_cases hqn2 : (q : Int) < need
        · have hkN : k = N := by omega
          have hok : ok = false := by rw [HOK.out, ← hkN, ← HQ.out]; simp; omega
          subst hok
          have hu := HU.out
          have hR := HRR.out
          simp only [Bool.false_eq_true, if_false] at hu hR
          subst hu
          subst hR
          subst hkN
          have l1 : ¬ (k : Int) < (k : Int) := by omega
          go_wp2_with (first | (refine wpList_val rfl (exec_build0 _ rfl _ built_cert0) ?_) | (refine wpList_store_big rfl 39 _ _ rfl _ rfl (ccells zeroV (.slice none 0 0)) rfl _ _ HB2.out (sizeCert zeroV_ok _) (by rw [ccells_len zeroV_ok]; rfl) (ccells_one _ rfl) ?_; intro w3 hb3 hf3 HS3))
          refine bodyPost_ret (results_ct rfl rfl (var_cert zeroV_ok (range_of_blk hb3))) rfl ?_
          exact ⟨none, 0, rfl, SR.nil _ _, (fun a ha => (by cases ha)), below_fr HBL.out hf3 (by omega)⟩
        · have hqe : (q : Int) = need := by omega
          have hpre := signsP_pre M v hk
          have hlen := hpre.length_le
          have hok : ok = true := by rw [HOK.out]; simp; have := HQ.out; omega
          subst hok
          have hu := HU.out
          have hR := HRR.out
          simp only [if_true] at hu hR
          rw [show need.toNat = (signsP M v k).length by have := HQ.out; omega, ← List.prefix_iff_eq_take.1 hpre] at hR
          subst hu
          subst hR
          have HSK := Lib.hid (signsP_ok HH.out.ok u k)
          clear hpre hlen hqe
          have l1 : ¬ (k : Int) < (N : Int) := by omega
          clear hkN0
          go_wp2_with (first | (refine wpList_val rfl (load_cert HV.out (range_of_blk HC.out) rfl rfl) ?_) | (refine wpList_store_big rfl 39 _ _ rfl _ rfl (ccells u (.slice A q c)) rfl _ _ HB2.out (sizeCert HV.out _) (by rw [ccells_len HV.out]; rfl) (ccells_one _ rfl) ?_; intro w3 hb3 hf3 HS3))
          refine bodyPost_ret (results_ct rfl rfl (var_cert HV.out (range_of_blk hb3))) rfl ?_
          have hso := HSO.out.fr hf3 (fun i hi e => by have := HSB.out i hi; omega)
          obtain ⟨A', c', e1, e2, e3, e4⟩ := hso.reads HSK.out
          cases e1
          exact ⟨A, c, rfl, e2, e4, below_fr HBL.out hf3 (by omega)⟩

end Go.Proofs.Ytpbcpocheblbfaa
