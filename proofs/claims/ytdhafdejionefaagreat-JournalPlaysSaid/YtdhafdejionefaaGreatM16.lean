/- Parts: The document's journal: lay, Lay. .. The document's journal: Open, Sure. -/
import Derived.Test.YtdhafdejionefaaGreatM15
import Derived.Test.YtdhafdejionefaaGreatM10
/- The document's journal: lay, Lay. -/
namespace Go.Proofs.YtdhafdejionefaaGreat
set_option linter.unusedVariables false
set_option linter.unusedSimpArgs false
open Go.RowKit

theorem layPut_err {a : Int} {f : List UInt8} {s : Int × Int × TS} (h : s.2.1 ≠ 0) : layPut a f s = s := by unfold layPut; rw [if_neg h]
theorem layFold_err {a : Int} : ∀ (ls : List (List UInt8)) {s : Int × Int × TS}, s.2.1 ≠ 0 → layFold a ls s = s
  | [], _, _ => rfl
  | l :: ls, s, h => by
    show layFold a ls (layPut a (frameB 68 l) s) = s
    rw [layPut_err h]; exact layFold_err ls h
theorem layFold_split (a : Int) (ls : List (List UInt8)) (k : Nat) (s : Int × Int × TS) : layFold a ls s = layFold a (ls.drop k) (layFold a (ls.take k) s) := by
  unfold layFold
  rw [← List.foldl_append, List.take_append_drop]
theorem cell_upd {w w' : World} {X X' : Nat → Prop} (u : Upd w w' X X') {b off : Nat} (hb : b < w.heap.size) (hX : ¬ X b) : w'.cell? ⟨b, off, none⟩ = w.cell? ⟨b, off, none⟩ := by
  unfold World.cell?
  rw [u.fr.block b hb hX]
variable {w : World} {rj rb : Nat} {J : JS} {T : TS} {F : Nat → Prop}
set_option maxRecDepth 100000 in
set_option maxHeartbeats 8000000 in
theorem rlay_any (a : Int) (A : Option Addr) (c : Nat) (ls : List (List UInt8)) (h : RJ w rj rb J T F) (hr : RLs w (FJ F rj) A ls) (hl : ls.length ≤ 2000000000) (hs : ∀ l ∈ ls, l.length ≤ 4194304) (ht : 0 ≤ J.turn ∧ J.turn < 1099511627776) :
    Calls Tryz.prog 63 #[.pointer (some ⟨rj, 0, none⟩), .int .i64 a, .slice A ls.length c] w fun e w' => e = .returned (.int .i64 (layN T a J.turn ls).2.1) ∧
      ∃ F', RJ w' rj rb J (layN T a J.turn ls).2.2 F' ∧ Upd w w' (FJ F rj) (FJ F' rj) := by
  obtain ⟨r, hrr⟩ : ∃ r, r = layN T a J.turn ls := ⟨_, rfl⟩
  rw [← hrr]
  unfold layN at hrr
  obtain ⟨N, hN⟩ : ∃ N, N = ls.length := ⟨_, rfl⟩
  rw [← hN] at hl ⊢
  have HN := Lib.hid hN
  have HR := Lib.hid hrr
  have HL := Lib.hid hr
  have HS := Lib.hid hs
  have HT := Lib.hid ht
  have H := Lib.hid h
  have c0 := h.c0
  clear hrr hr hs ht h hN
  go_enter Tryz.func63, Tryz.ntmps63
  go_wp2_with fail
  refine (rclear_any rb a T F w H.out.tape).mono ?_
  obtain ⟨⟨p, T0⟩, hp⟩ : ∃ p, p = T.clear a := ⟨_, rfl⟩
  have hr := HR.out
  rw [← hp] at hr ⊢
  rintro e w3 ⟨rfl, F3, ht, hu⟩
  obtain ⟨h3, u3⟩ := H.out.upd ht hu
  have H3 := Lib.hid h3
  have U3 := Lib.hid u3
  clear ht hu u3 HR hp h3 c0
  have HR := Lib.hid hr
  clear hr
  by_cases hp0 : p = 0
  · subst hp0
    have hr := HR.out
    rw [if_neg (by simp)] at hr
    have HR := Lib.hid hr
    clear hr
    go_wp2_with fail
    go_loopw [8] (fun i wr => ∃ (k : Nat) (F' : Nat → Prop) (q : Int × Int × TS), k ≤ N ∧ i = .int .i64 (k : Int) ∧ Hid (q = layFold a (ls.take k) (0, 0, T0)) ∧ Hid (q.2.1 = 0) ∧ Hid (RJ wr rj rb J q.2.2 F') ∧ Hid (Upd w wr (FJ F rj) (FJ F' rj))) (fun i _ => N - (intOf i).toNat)
    case atStart => exact ⟨0, F3, (0, 0, T0), Nat.zero_le _, rfl, Lib.hid rfl, Lib.hid rfl, H3, U3⟩
    case round =>
      clear H3 U3
      obtain ⟨k, F', q, hk, rfl, HQ, HQ0, HW, HU⟩ := hrel
      by_cases hlt : k < N
      · obtain ⟨l, hl'⟩ : ∃ l, ls[k]? = some l := ⟨_, List.getElem?_eq_getElem (by rw [← HN.out]; exact hlt)⟩
        have hrl := HL.out.upd HU.out
        obtain ⟨b, off, cc, hA, hbl, hX, hcell, A1, n1, rfl, hn1, hrb, hX1⟩ := hrl k l hl'
        subst hA
        have hls := HS.out l (List.mem_of_getElem? hl')
        obtain ⟨m, hm⟩ : ∃ m, m = l.length := ⟨_, rfl⟩
        rw [← hm] at hcell hn1
        have HM := Lib.hid hm
        have HRB := Lib.hid hrb
        have HL' := Lib.hid hl'
        have c0 := HW.out.c0
        have HXb := Lib.hid hX
        clear hm hrb hl' hX1 hrl hX
        go_wp2_with fail
        refine wp_region_phased (fun W => W.cell? ⟨rj, 0, none⟩ = some (.pointer (some ⟨rb, 0, none⟩)) ∧ W.cell? ⟨b, off + k, none⟩ = some (.slice A1 m n1)) 12 (by kernel_rfl) ⟨c0, hcell⟩ (fun hS => ?_)
        have h2 := HW.out.below (Below.refl _ _).drew
        have hx2 := HRB.out.below (Below.refl _ _).drew
        refine wpAnyP_pure (v := ?_) 0 (at_toArray rfl) (by kernel_rfl) (by kernel_rfl) (by kernel_rfl) (fun _ _ _ h => h) (Or.inl ⟨by rfl, fun W => ?_⟩) ?_
        rotate_left 1
        · (go_simp <;> (try go_bits) <;> with_reducible rfl)
        simp only [Act.put, List.setIfInBounds_toArray, List.set_cons_zero, List.set_cons_succ]
        refine wpAnyP_pure (v := ?_) 1 (at_toArray rfl) (by kernel_rfl) (by kernel_rfl) (by kernel_rfl) (fun _ _ _ h => h) (Or.inl ⟨by rfl, fun W => ?_⟩) ?_
        rotate_left 1
        · (go_simp <;> (try go_bits) <;> with_reducible rfl)
        simp only [Act.put, List.setIfInBounds_toArray, List.set_cons_zero, List.set_cons_succ]
        refine wpAnyP_pure (v := ?_) 2 (at_toArray rfl) (by kernel_rfl) (by kernel_rfl) (by kernel_rfl) (fun _ _ _ h => h) (Or.inl ⟨by rfl, fun W => ?_⟩) ?_
        rotate_left 1
        · (go_simp <;> (try go_bits) <;> with_reducible rfl)
        simp only [Act.put, List.setIfInBounds_toArray, List.set_cons_zero, List.set_cons_succ]
        refine wpAnyP_load (v := ?_) 3 (by kernel_rfl) (at_toArray rfl) (by kernel_rfl) (by kernel_rfl) (by kernel_rfl) (fun _ _ _ h => h) (by first | assumption | rfl) (Or.inl ⟨by rfl, fun W hS => ?_⟩) ?_
        rotate_left 1
        · (obtain ⟨_, _⟩ := hS; go_simp <;> (try go_bits) <;> with_reducible rfl)
        simp only [Act.put, List.setIfInBounds_toArray, List.set_cons_zero, List.set_cons_succ]
        refine wpAnyP_pure (v := ?_) 4 (at_toArray rfl) (by kernel_rfl) (by kernel_rfl) (by kernel_rfl) (fun _ _ _ h => h) (Or.inl ⟨by rfl, fun W => ?_⟩) ?_
        rotate_left 1
        · (go_simp <;> (try go_bits) <;> with_reducible rfl)
        simp only [Act.put, List.setIfInBounds_toArray, List.set_cons_zero, List.set_cons_succ]
        refine wpAnyP_pure (v := ?_) 5 (at_toArray rfl) (by kernel_rfl) (by kernel_rfl) (by kernel_rfl) (fun _ _ _ h => h) (Or.inl ⟨by rfl, fun W => ?_⟩) ?_
        rotate_left 1
        · (go_simp <;> (try go_bits) <;> with_reducible rfl)
        simp only [Act.put, List.setIfInBounds_toArray, List.set_cons_zero, List.set_cons_succ]
        refine wpAnyP_pure (v := ?_) 6 (at_toArray rfl) (by kernel_rfl) (by kernel_rfl) (by kernel_rfl) (fun _ _ _ h => h) (Or.inl ⟨by rfl, fun W => ?_⟩) ?_
        rotate_left 1
        · (go_simp <;> (try go_bits) <;> with_reducible rfl)
        simp only [Act.put, List.setIfInBounds_toArray, List.set_cons_zero, List.set_cons_succ]
        refine wpAnyP_pure (v := ?_) 7 (at_toArray rfl) (by kernel_rfl) (by kernel_rfl) (by kernel_rfl) (fun _ _ _ h => h) (Or.inl ⟨by rfl, fun W => ?_⟩) ?_
        rotate_left 1
        · (go_simp <;> (try go_bits) <;> with_reducible rfl)
        simp only [Act.put, List.setIfInBounds_toArray, List.set_cons_zero, List.set_cons_succ]
        refine wpAnyP_load (v := ?_) 8 (by kernel_rfl) (at_toArray rfl) (by kernel_rfl) (by kernel_rfl) (by kernel_rfl) (fun _ _ _ h => h) (by first | assumption | rfl) (Or.inl ⟨by rfl, fun W hS => ?_⟩) ?_
        rotate_left 1
        · (obtain ⟨_, _⟩ := hS; go_simp <;> (try go_bits) <;> with_reducible rfl)
        simp only [Act.put, List.setIfInBounds_toArray, List.set_cons_zero, List.set_cons_succ]
        refine wpAnyP_one 9 (at_toArray rfl) (by kernel_rfl) rfl (fun K hK => ?_)
        go_wp2_with fail
        refine (rframe_n wr.drew.heap.size 68 A1 n1 m l _ HM.out.symm (Nat.le_refl _) hx2 (by omega)).mono ?_
        rintro e w5 ⟨A2, c2, rfl, hf2, hA2, hb2⟩
        have h5 := h2.below hb2
        have hfs := frameB_small 68 l hls
        have hc5 : w5.cell? ⟨b, off + k, none⟩ = some (.slice A1 m n1) := (hb2.cell (p := ⟨b, off + k, none⟩) hbl).trans hcell
        obtain ⟨fl, hfl⟩ : ∃ fl, fl = (frameB 68 l).length := ⟨_, rfl⟩
        have hcall := rappend_any rb a A2 c2 (frameB 68 l) q.2.2 F' w5 h5.tape hf2 (fun x hx h0 hF => by
          have e1 := hA2 x hx
          obtain ⟨_, _, _, _, t⟩ := h2.tape
          have := t.flt _ hF
          omega)
        rw [← hfl] at hcall ⊢
        have HC := Lib.hid hcall
        have H5 := Lib.hid h5
        have HU5 := Lib.hid (HU.out.trans (Upd.of_below (((Below.refl _ _).drew).trans hb2)))
        have hb5 : b < w5.heap.size := Nat.lt_of_lt_of_le hbl hb2.size
        clear hcall hfl h5 hf2 hA2 hb2 hcell h2 hx2
        go_wp2_with fail
        refine hK.out _ _ (fun _ _ => ⟨H5.out.c0, hc5⟩) ?_
        clear hK
        refine wpAnyP_one 10 (at_toArray rfl) (by kernel_rfl) rfl (fun K hK => ?_)
        go_wp2_with fail
        refine HC.out.mono ?_
        have hq1 : layPut a (frameB 68 l) q = (wrap64 (q.1 + ((frameB 68 l).length : Int)), (q.2.2.append a (frameB 68 l)).1, (q.2.2.append a (frameB 68 l)).2) := by unfold layPut; rw [if_pos HQ0.out]
        obtain ⟨⟨p1, T1⟩, hp1⟩ : ∃ p, p = q.2.2.append a (frameB 68 l) := ⟨_, rfl⟩
        rw [← hp1] at hq1 ⊢
        rintro e w6 ⟨rfl, F6, ht6, hu6⟩
        obtain ⟨h6, u6⟩ := H5.out.upd ht6 hu6
        have hc6 : w6.cell? ⟨b, off + k, none⟩ = some (.slice A1 m n1) := (cell_upd u6 hb5 HXb.out).trans hc5
        have H6 := Lib.hid h6
        have U6 := Lib.hid (HU5.out.trans u6)
        have HQ1 := Lib.hid hq1
        have HF1 : Hid (layFold a (ls.take (k + 1)) (0, 0, T0) = (wrap64 (q.1 + ((frameB 68 l).length : Int)), p1, T1)) := Lib.hid (by rw [take_snoc ls k l HL'.out, layFold_snoc, ← HQ.out, hq1])
        clear ht6 hu6 u6 h6 hp1 hq1 HC HU5 H5 hc5
        go_wp2_with fail
        refine hK.out _ _ (fun _ _ => ⟨H6.out.c0, hc6⟩) ?_
        clear hK
        refine wpAnyP_pure (v := ?_) 11 (at_toArray rfl) (by kernel_rfl) (by kernel_rfl) (by kernel_rfl) (fun _ _ _ h => h) (Or.inl ⟨by rfl, fun W => ?_⟩) ?_
        rotate_left 1
        · (go_simp <;> (try go_bits) <;> with_reducible rfl)
        simp only [Act.put, List.setIfInBounds_toArray, List.set_cons_zero, List.set_cons_succ]
        refine wpAnyP_done (by kernel_rfl) ?_ _
        by_cases hp1 : p1 = 0
        · subst hp1
          go_wp2_with fail
          go_roundw
          case rel => exact ⟨k + 1, F6, _, hlt, by go_num, Lib.hid HF1.out.symm, Lib.hid rfl, H6, U6⟩
          case measure => simp [intOf]; omega
        · have hb1 : (p1 != 0) = true := by simp [hp1]
          have hr := HR.out
          have hfin : layFold a ls (0, 0, T0) = (wrap64 (q.1 + ((frameB 68 l).length : Int)), p1, T1) := by rw [layFold_split a ls (k + 1), HF1.out]; exact layFold_err _ hp1
          have hend : layEnd a J.turn (layFold a ls (0, 0, T0)) = (wrap64 (q.1 + ((frameB 68 l).length : Int)), p1, T1) := by rw [hfin]; exact layPut_err hp1
          rw [hend, if_neg hp1] at hr
          have HRr := Lib.hid hr
          clear hr hfin hend
          go_wp2_with fail
          go_ret
          rw [HRr.out]
          exact ⟨rfl, F6, H6.out, U6.out⟩
      · have hkN : k = N := by omega
        subst hkN
        have hq := HQ.out
        rw [HN.out, List.take_length] at hq
        have hr := HR.out
        rw [← hq] at hr
        clear HR HQ
        have HR := Lib.hid hr
        clear hr hq
        obtain ⟨tn, htn⟩ : ∃ tn : Nat, J.turn = (tn : Int) := ⟨J.turn.toNat, by have := HT.out.1; omega⟩
        have htb : tn < 1099511627776 := by have := HT.out.2; omega
        have c0 := HW.out.c0
        have ct := HW.out.c2
        rw [htn] at ct
        have HTN := Lib.hid htn
        clear htn
        go_wp2_with fail
        refine wp_region_phased (fun W => W.cell? ⟨rj, 0, none⟩ = some (.pointer (some ⟨rb, 0, none⟩)) ∧ W.cell? ⟨rj, 2, none⟩ = some (.int .i64 (tn : Int))) 14 (by kernel_rfl) ⟨c0, ct⟩ (fun hS => ?_)
        have h2 := HW.out.below (Below.refl _ _).drew
        refine wpAnyP_pure (v := ?_) 0 (at_toArray rfl) (by kernel_rfl) (by kernel_rfl) (by kernel_rfl) (fun _ _ _ h => h) (Or.inl ⟨by rfl, fun W => ?_⟩) ?_
        rotate_left 1
        · (go_simp <;> (try go_bits) <;> with_reducible rfl)
        simp only [Act.put, List.setIfInBounds_toArray, List.set_cons_zero, List.set_cons_succ]
        refine wpAnyP_pure (v := ?_) 1 (at_toArray rfl) (by kernel_rfl) (by kernel_rfl) (by kernel_rfl) (fun _ _ _ h => h) (Or.inl ⟨by rfl, fun W => ?_⟩) ?_
        rotate_left 1
        · (go_simp <;> (try go_bits) <;> with_reducible rfl)
        simp only [Act.put, List.setIfInBounds_toArray, List.set_cons_zero, List.set_cons_succ]
        refine wpAnyP_pure (v := ?_) 2 (at_toArray rfl) (by kernel_rfl) (by kernel_rfl) (by kernel_rfl) (fun _ _ _ h => h) (Or.inl ⟨by rfl, fun W => ?_⟩) ?_
        rotate_left 1
        · (go_simp <;> (try go_bits) <;> with_reducible rfl)
        simp only [Act.put, List.setIfInBounds_toArray, List.set_cons_zero, List.set_cons_succ]
        refine wpAnyP_load (v := ?_) 3 (by kernel_rfl) (at_toArray rfl) (by kernel_rfl) (by kernel_rfl) (by kernel_rfl) (fun _ _ _ h => h) (by first | assumption | rfl) (Or.inl ⟨by rfl, fun W hS => ?_⟩) ?_
        rotate_left 1
        · (obtain ⟨_, _⟩ := hS; go_simp <;> (try go_bits) <;> with_reducible rfl)
        simp only [Act.put, List.setIfInBounds_toArray, List.set_cons_zero, List.set_cons_succ]
        refine wpAnyP_pure (v := ?_) 4 (at_toArray rfl) (by kernel_rfl) (by kernel_rfl) (by kernel_rfl) (fun _ _ _ h => h) (Or.inl ⟨by rfl, fun W => ?_⟩) ?_
        rotate_left 1
        · (go_simp <;> (try go_bits) <;> with_reducible rfl)
        simp only [Act.put, List.setIfInBounds_toArray, List.set_cons_zero, List.set_cons_succ]
        refine wpAnyP_pure (v := ?_) 5 (at_toArray rfl) (by kernel_rfl) (by kernel_rfl) (by kernel_rfl) (fun _ _ _ h => h) (Or.inl ⟨by rfl, fun W => ?_⟩) ?_
        rotate_left 1
        · (go_simp <;> (try go_bits) <;> with_reducible rfl)
        simp only [Act.put, List.setIfInBounds_toArray, List.set_cons_zero, List.set_cons_succ]
        refine wpAnyP_pure (v := ?_) 6 (at_toArray rfl) (by kernel_rfl) (by kernel_rfl) (by kernel_rfl) (fun _ _ _ h => h) (Or.inl ⟨by rfl, fun W => ?_⟩) ?_
        rotate_left 1
        · (go_simp <;> (try go_bits) <;> with_reducible rfl)
        simp only [Act.put, List.setIfInBounds_toArray, List.set_cons_zero, List.set_cons_succ]
        refine wpAnyP_pure (v := ?_) 7 (at_toArray rfl) (by kernel_rfl) (by kernel_rfl) (by kernel_rfl) (fun _ _ _ h => h) (Or.inl ⟨by rfl, fun W => ?_⟩) ?_
        rotate_left 1
        · (go_simp <;> (try go_bits) <;> with_reducible rfl)
        simp only [Act.put, List.setIfInBounds_toArray, List.set_cons_zero, List.set_cons_succ]
        refine wpAnyP_load (v := ?_) 8 (by kernel_rfl) (at_toArray rfl) (by kernel_rfl) (by kernel_rfl) (by kernel_rfl) (fun _ _ _ h => h) (by first | assumption | rfl) (Or.inl ⟨by rfl, fun W hS => ?_⟩) ?_
        rotate_left 1
        · (obtain ⟨_, _⟩ := hS; go_simp <;> (try go_bits) <;> with_reducible rfl)
        simp only [Act.put, List.setIfInBounds_toArray, List.set_cons_zero, List.set_cons_succ]
        refine wpAnyP_pure (v := ?_) 9 (at_toArray rfl) (by kernel_rfl) (by kernel_rfl) (by kernel_rfl) (fun _ _ _ h => h) (Or.inl ⟨by rfl, fun W => ?_⟩) ?_
        rotate_left 1
        · (go_simp <;> (try go_bits) <;> with_reducible rfl)
        simp only [Act.put, List.setIfInBounds_toArray, List.set_cons_zero, List.set_cons_succ]
        refine wpAnyP_one 10 (at_toArray rfl) (by kernel_rfl) rfl (fun K hK => ?_)
        go_wp2_with fail
        rw [show (tn : Int) + 1 = ((tn + 1 : Nat) : Int) by omega]
        refine (rput_any wr.drew.heap.size none 0 [] (tn + 1) _ (Nat.le_refl _) (RB.nil _ _) (by simp) (by omega)).mono ?_
        rintro e w5 ⟨v5, rfl, ho5, hb5⟩
        rw [List.nil_append] at ho5
        have hpl : (putN (tn + 1)).length ≤ 9 := by
          have := nbytes_small (n := tn + 1) (by omega)
          rw [putN_len]; omega
        obtain ⟨A5, c5, rfl, hr5, _⟩ := ho5.reads' (by omega)
        obtain ⟨pl, hpl'⟩ : ∃ pl, pl = (putN (tn + 1)).length := ⟨_, rfl⟩
        rw [← hpl'] at hpl ⊢
        have h5 := h2.below hb5
        have HPL := Lib.hid hpl'
        have H5 := Lib.hid h5
        have HU5 := Lib.hid (HU.out.trans (Upd.of_below (((Below.refl _ _).drew).trans hb5)))
        clear hpl' ho5 h5 h2 hb5
        go_wp2_with fail
        refine hK.out _ _ (fun _ _ => ⟨H5.out.c0, by rw [← HTN.out]; exact H5.out.c2⟩) ?_
        clear hK
        refine wpAnyP_one 11 (at_toArray rfl) (by kernel_rfl) rfl (fun K hK => ?_)
        go_wp2_with fail
        refine (rframe_n w5.heap.size 71 A5 c5 pl (putN (tn + 1)) w5 HPL.out.symm (Nat.le_refl _) hr5 (by rw [← HPL.out]; omega)).mono ?_
        rintro e w6 ⟨A6, c6, rfl, hf6, hA6, hb6⟩
        have h6 := H5.out.below hb6
        have hfs := frameB_small 71 (putN (tn + 1)) (by rw [← HPL.out]; omega)
        obtain ⟨fl, hfl⟩ : ∃ fl, fl = (frameB 71 (putN (tn + 1))).length := ⟨_, rfl⟩
        have hcall := rappend_any rb a A6 c6 (frameB 71 (putN (tn + 1))) q.2.2 F' w6 h6.tape hf6 (fun x hx h0 hF => by
          have e1 := hA6 x hx
          obtain ⟨_, _, _, _, t⟩ := H5.out.tape
          have := t.flt _ hF
          omega)
        rw [← hfl] at hcall ⊢
        have HC := Lib.hid hcall
        have H6 := Lib.hid h6
        have HU6 := Lib.hid (HU5.out.trans (Upd.of_below hb6))
        have hend : layEnd a J.turn q = (wrap64 (q.1 + ((frameB 71 (putN (tn + 1))).length : Int)), (q.2.2.append a (frameB 71 (putN (tn + 1)))).1, (q.2.2.append a (frameB 71 (putN (tn + 1)))).2) := by
          unfold layEnd layPut
          rw [if_pos HQ0.out, HTN.out]
          rfl
        clear hcall hfl h6 hf6 hA6 hb6 hr5 HU5 ct
        go_wp2_with fail
        refine hK.out _ _ (fun _ _ => ⟨H6.out.c0, by rw [← HTN.out]; exact H6.out.c2⟩) ?_
        clear hK
        refine wpAnyP_one 12 (at_toArray rfl) (by kernel_rfl) rfl (fun K hK => ?_)
        go_wp2_with fail
        refine HC.out.mono ?_
        obtain ⟨⟨p1, T1⟩, hp1⟩ : ∃ p, p = q.2.2.append a (frameB 71 (putN (tn + 1))) := ⟨_, rfl⟩
        have hr := HR.out
        rw [← hp1] at hend ⊢
        rw [hend] at hr
        rintro e w7 ⟨rfl, F7, ht7, hu7⟩
        obtain ⟨h7, u7⟩ := H6.out.upd ht7 hu7
        have H7 := Lib.hid h7
        have U7 := Lib.hid (HU6.out.trans u7)
        have HR := Lib.hid hr
        have c7 := h7.c0
        clear ht7 hu7 u7 h7 hp1 hend hr HC HU6 H6 H5
        go_wp2_with fail
        refine hK.out _ _ (fun _ _ => ⟨H7.out.c0, by rw [← HTN.out]; exact H7.out.c2⟩) ?_
        clear hK
        refine wpAnyP_pure (v := ?_) 13 (at_toArray rfl) (by kernel_rfl) (by kernel_rfl) (by kernel_rfl) (fun _ _ _ h => h) (Or.inl ⟨by rfl, fun W => ?_⟩) ?_
        rotate_left 1
        · (go_simp <;> (try go_bits) <;> with_reducible rfl)
        simp only [Act.put, List.setIfInBounds_toArray, List.set_cons_zero, List.set_cons_succ]
        refine wpAnyP_done (by kernel_rfl) ?_ _
        by_cases hp1 : p1 = 0
        · subst hp1
          have hr := HR.out
          rw [if_pos rfl] at hr
          have HR := Lib.hid hr
          clear hr
          go_wp2_with fail
          refine (rsync_any rb a T1 F7 w7 H7.out.tape).mono ?_
          obtain ⟨⟨p8, T8⟩, hp8⟩ : ∃ p, p = T1.sync a := ⟨_, rfl⟩
          have hr := HR.out
          rw [← hp8] at hr ⊢
          rintro e w9 ⟨rfl, F9, ht, hu⟩
          obtain ⟨h9, u9⟩ := H7.out.upd ht hu
          have H9 := Lib.hid h9
          have U9 := Lib.hid (U7.out.trans u9)
          have HRr := Lib.hid hr
          clear ht hu u9 h9 hp8 hr HR c7
          go_wp2_with fail
          go_ret
          rw [HRr.out]
          exact ⟨rfl, F9, H9.out, U9.out⟩
        · have hb1 : (p1 != 0) = true := by simp [hp1]
          have hr := HR.out
          rw [if_neg hp1] at hr
          have HRr := Lib.hid hr
          clear hr HR
          go_wp2_with fail
          go_ret
          rw [HRr.out]
          exact ⟨rfl, F7, H7.out, U7.out⟩
  · have hr := HR.out
    rw [if_pos hp0] at hr
    subst hr
    have hp0' : (p != 0) = true := by simp [hp0]
    clear HR
    go_wp2_with fail
    go_ret
    exact ⟨rfl, F3, H3.out, U3.out⟩

end Go.Proofs.YtdhafdejionefaaGreat

/- The document's journal: Lay, Sure. -/
namespace Go.Proofs.YtdhafdejionefaaGreat
set_option linter.unusedVariables false
set_option linter.unusedSimpArgs false
open Go.RowKit

variable {w : World} {rj rb : Nat} {J : JS} {T : TS} {F : Nat → Prop}
set_option maxRecDepth 100000 in
set_option maxHeartbeats 4000000 in
theorem rjlay_any (A : Option Addr) (c : Nat) (ls : List (List UInt8)) (h : RJ w rj rb J T F) (hr : RLs w (FJ F rj) A ls) (hl : ls.length ≤ 2000000000) (hJ : J.ok) :
    Calls Tryz.prog 36 #[.pointer (some ⟨rj, 0, none⟩), .slice A ls.length c] w (DoesRJ w rj rb F (J.lay T ls)) := by
  obtain ⟨r, hrr⟩ : ∃ r, r = J.lay T ls := ⟨_, rfl⟩
  rw [← hrr]
  unfold JS.lay at hrr
  obtain ⟨N, hN⟩ : ∃ N, N = ls.length := ⟨_, rfl⟩
  rw [← hN] at hl ⊢
  have HN := Lib.hid hN
  have HR := Lib.hid hrr
  have HL := Lib.hid hr
  have HJ := Lib.hid hJ
  clear hrr hr hJ hN
  go_enter Tryz.func36, Tryz.ntmps36
  go_wp2_with fail
  refine (ron_any h).mono ?_
  rintro e w1 ⟨rfl, hb⟩
  have h1 := h.below hb
  have HB := Lib.hid hb
  have HL := Lib.hid (HL.out.upd (Upd.of_below hb))
  obtain ⟨v, hv⟩ : ∃ v, v = J.fault T := ⟨_, rfl⟩
  have hv150 : v = 0 ∨ v = 150 := by rw [hv]; unfold JS.fault; split <;> simp
  have hr := HR.out
  rw [← hv] at hr ⊢
  clear hv hb h HR
  by_cases h0 : v = 0
  · subst h0
    rw [if_neg (by simp)] at hr
    have HR := Lib.hid hr
    clear hr
    go_wp2_with fail
    go_loopw [5] (fun i wr => ∃ k : Nat, k ≤ N ∧ i = .int .i64 (k : Int) ∧ Hid (long (ls.take k) = false) ∧ Hid (w1 = wr)) (fun i _ => N - (intOf i).toNat)
    case atStart => exact ⟨0, Nat.zero_le _, rfl, Lib.hid (by simp [long]), Lib.hid rfl⟩
    case round =>
      obtain ⟨k, hk, rfl, HQ, HW⟩ := hrel
      have hw := HW.out
      subst hw
      clear HW
      by_cases hlt : k < N
      · obtain ⟨l, hl'⟩ : ∃ l, ls[k]? = some l := ⟨_, List.getElem?_eq_getElem (by rw [← HN.out]; exact hlt)⟩
        obtain ⟨b, off, cc, hA, hbl, hX, hcell, A1, n1, rfl, hn1, hrb, hX1⟩ := HL.out k l hl'
        subst hA
        obtain ⟨m, hm⟩ : ∃ m, m = l.length := ⟨_, rfl⟩
        rw [← hm] at hcell hn1
        have HM := Lib.hid hm
        have HL' := Lib.hid hl'
        clear hm hl' hX1 hrb
        by_cases hlong : 4194304 < m
        · have hlg : long ls = true := by
            unfold long
            rw [List.any_eq_true]
            exact ⟨l, List.mem_of_getElem? HL'.out, by rw [← HM.out]; simp; exact hlong⟩
          have hr := HR.out
          rw [if_pos hlg] at hr
          subst hr
          go_wp2_with fail
          go_ret
          exact ⟨rfl, F, h1, Upd.of_below HB.out⟩
        · go_wp2_with fail
          go_roundw
          case rel =>
            refine ⟨k + 1, hlt, by go_num, Lib.hid ?_, Lib.hid (by trivial)⟩
            rw [take_snoc ls k l HL'.out]
            have := HQ.out
            unfold long at this ⊢
            rw [List.any_append, this]
            simp
            have := HM.out
            omega
          case measure => simp [intOf]; omega
      · have hkN : k = N := by omega
        subst hkN
        have hlg := HQ.out
        rw [HN.out, List.take_length] at hlg
        have hr := HR.out
        rw [if_neg (by rw [hlg]; simp)] at hr
        have hs : ∀ l ∈ ls, l.length ≤ 4194304 := fun l hl' => by
          unfold long at hlg
          have := List.any_eq_false.1 hlg l hl'
          simp at this
          omega
        have HS := Lib.hid hs
        clear HR HQ hlg hs
        have c2 := h1.c2
        have c1 := h1.c1
        have c0 := h1.c0
        obtain ⟨hja, hjt⟩ := HJ.out
        obtain ⟨jt, hjt'⟩ : ∃ jt, jt = J.turn := ⟨_, rfl⟩
        obtain ⟨ja, hja'⟩ : ∃ ja, ja = J.area := ⟨_, rfl⟩
        rw [← hjt'] at hjt
        rw [← hja'] at hja
        rw [← hja', ← hjt'] at hr
        rw [← hjt'] at c2
        rw [← hja'] at c1
        obtain ⟨hjt0, hjt1⟩ := hjt
        by_cases hmax : 1099511627776 ≤ jt
        · rw [if_pos hmax] at hr
          subst hr
          go_wp2_with fail
          go_ret
          exact ⟨rfl, F, h1, Upd.of_below HB.out⟩
        · rw [if_neg hmax] at hr
          have hmax' : jt < 1099511627776 := by omega
          have HR := Lib.hid hr
          have HJT := Lib.hid hjt'
          have HJA := Lib.hid hja'
          have hja0 : 0 ≤ ja ∧ ja ≤ 1 := by omega
          have hja01 := hja0.1
          have hja02 := hja0.2
          clear hr hjt' hja' hja0
          go_wp2_with fail
          have hcall := rlay_any (1 - ja) A c ls h1 HL.out (by rw [← HN.out]; exact hl) HS.out ⟨by rw [← HJT.out]; omega, by rw [← HJT.out]; omega⟩
          rw [← HN.out, ← HJT.out] at hcall
          obtain ⟨⟨n9, e9, T9⟩, hq⟩ : ∃ q, q = layN T (1 - ja) jt ls := ⟨_, rfl⟩
          have hr := HR.out
          rw [← hq] at hr hcall
          have HR := Lib.hid hr
          clear hr hq
          refine hcall.mono ?_
          clear hcall
          rintro e w2 ⟨rfl, F2, h2, u2⟩
          have H2 := Lib.hid h2
          have U2 := Lib.hid ((Upd.of_below HB.out).trans u2)
          have d0 := h2.c0
          have d1 := h2.c1
          have d2 := h2.c2
          rw [← HJT.out] at d2
          have e1 := h2.blk.free 1
          have e2 := h2.blk.free 2
          clear u2 h2 c0 c1 c2 h1
          by_cases he0 : e9 = 0
          · subst he0
            have hr := HR.out
            rw [if_pos rfl] at hr
            subst hr
            go_wp2_with fail
            go_ret
            obtain ⟨k1, v1⟩ := H2.out.set (J' := { J with area := 1 - ja, bytes := n9 }) 1 (.int .i64 (1 - ja)) rfl
            obtain ⟨k3, v3⟩ := k1.set (J' := { J with area := 1 - ja, turn := jt + 1, bytes := n9 }) 2 (.int .i64 (jt + 1)) rfl
            exact ⟨rfl, F2, k3, (U2.out.trans v1).trans v3⟩
          · have hr := HR.out
            rw [if_neg he0] at hr
            have HR := Lib.hid hr
            clear hr
            have he0' : (e9 != 0) = true := by simp [he0]
            by_cases he1 : e9 = 151
            · subst he1
              have hr := HR.out
              rw [if_pos rfl] at hr
              have HR := Lib.hid hr
              clear hr
              go_wp2_with fail
              refine (rclear_any rb (1 - ja) T9 F2 _ H2.out.tape).mono ?_
              obtain ⟨⟨p, T8⟩, hp⟩ : ∃ p, p = T9.clear (1 - ja) := ⟨_, rfl⟩
              have hr := HR.out
              rw [← hp] at hr ⊢
              rintro e w3 ⟨rfl, F3, ht, hu⟩
              obtain ⟨h3, u3⟩ := H2.out.upd ht hu
              have U3 := Lib.hid (U2.out.trans u3)
              have H3 := Lib.hid h3
              clear HR hp ht hu h3 u3
              by_cases hp0 : p = 0
              · subst hp0
                rw [if_neg (by simp)] at hr
                subst hr
                go_wp2_with fail
                go_ret
                exact ⟨rfl, F3, H3.out, U3.out⟩
              · simp only at hr
                rw [if_pos hp0] at hr
                subst hr
                have hp0' : (p != 0) = true := by simp [hp0]
                go_wp2_with fail
                go_ret
                exact ⟨rfl, F3, H3.out, U3.out⟩
            · have hr := HR.out
              rw [if_neg he1] at hr
              subst hr
              have he1' : (e9 == 151) = false := by simp [he1]
              go_wp2_with fail
              go_ret
              exact ⟨rfl, F2, H2.out, U2.out⟩
  · rw [if_pos h0] at hr
    subst hr
    obtain rfl : v = 150 := hv150.resolve_left h0
    go_wp2_with fail
    go_ret
    exact ⟨rfl, F, h1, Upd.of_below HB.out⟩

end Go.Proofs.YtdhafdejionefaaGreat

/- The walk of the journal's Open: the records that it tells lie in no block that was there ahead. -/
namespace Go.Proofs.YtdhafdejionefaaGreat
set_option linter.unusedVariables false
set_option linter.unusedSimpArgs false
open Go.RowKit

/-- The blocks of X, and all old ones. -/
def OldX (N : Nat) (X : Nat → Prop) : Nat → Prop := fun k => X k ∨ k < N
theorem Upd.oldx {w w' : World} {X X' : Nat → Prop} {N : Nat} (h : Upd w w' X X') : Upd w w' (OldX N X) (OldX N X') :=
  ⟨h.fr.mono fun i hi => .inl (.inl hi), fun k hk => hk.elim (fun h' => (h.new k h').elim (fun h => .inl (.inl h)) .inr) (fun h => .inl (.inr h))⟩
theorem RLs.sub {w : World} {X Y : Nat → Prop} {A : Option Addr} {ls : List (List UInt8)} (h : RLs w X A ls) (hs : ∀ k, Y k → X k) : RLs w Y A ls := fun j l hj => by
  obtain ⟨b, off, c, e1, e2, e3, e4, A1, n, f1, f2, f3, f4⟩ := h j l hj
  exact ⟨b, off, c, e1, e2, fun hy => e3 (hs _ hy), e4, A1, n, f1, f2, f3, fun a ha h0 => ⟨(f4 a ha h0).1, fun hy => (f4 a ha h0).2 (hs _ hy)⟩⟩
def OpenPostX (w : World) (tb : Nat) (F : Nat → Prop) (T : TS) (e : Ending) (w' : World) : Prop :=
  ∃ F', if (openP T).1 = 0 then ∃ jb A c, e = .returned (.tuple #[.pointer (some ⟨jb, 0, none⟩), .slice A (found T).2.length c, .int .i64 0]) ∧ JR w' jb tb (openP T).2.2 (openP T).2.1 F' ∧ w.heap.size ≤ jb ∧ RLs w' (OldX w.heap.size (FJ F' jb)) A (found T).2 ∧ Upd w w' F (FJ F' jb)
  else e = .returned (.tuple #[.pointer none, .slice none 0 0, .int .i64 (openP T).1]) ∧ TapeR w' tb (openP T).2.1 F' ∧ Upd w w' F F'
variable {w : World} {tb : Nat} {T : TS} {F : Nat → Prop}
set_option maxRecDepth 100000 in
set_option maxHeartbeats 8000000 in
theorem jopenx_any (h : TapeR w tb T F) : Calls Tryz.prog 19 #[.pointer (some ⟨tb, 0, none⟩)] w (OpenPostX w tb F T) := by
  go_enter Tryz.func19, Tryz.ntmps19
  go_wp2_with fail
  refine (fault_look tb 0 T F w h).mono ?_
  rintro e w1 ⟨A0, c0, m0, rfl, z1, z2, z3, hb, z4⟩
  clear z1 z2 z3 z4
  have h1 := h.below hb
  have HB := Lib.hid hb
  obtain ⟨v, hv⟩ : ∃ v, v = faultN T.off 0 := ⟨_, rfl⟩
  rw [← hv]
  clear hb h
  by_cases ho : T.off = true
  · replace hv : v = 150 := by rw [hv, ho]; rfl
    subst hv
    have ho' : openP T = (150, T, (found T).1) := by unfold openP; rw [if_pos ho]
    have HO := Lib.hid ho'
    clear ho ho'
    go_wp2_with fail
    refine bodyPost_ret (results_tmp3 rfl _ _ _) rfl ?_
    refine ⟨F, ?_⟩
    have ho' := HO.out
    rw [ho', if_neg (by simp)]
    exact ⟨rfl, h1, Upd.of_below HB.out⟩
  · have ho0 : T.off = false := by simpa using ho
    replace hv : v = 0 := by rw [hv, ho0]; rfl
    subst hv
    have hop : openP T = (found T).1.lay T (found T).2 := by unfold openP; rw [if_neg ho]
    have HOP := Lib.hid hop
    clear ho hop ho0
    go_wp2_with fail
    refine (counts_any tb T F w1 h1).mono ?_
    rintro e w2 ⟨rfl, n, hw2⟩
    have hb : Below w1.heap.size w1 w2 := by rw [hw2]; exact ⟨rfl, rfl, rfl, Nat.le_refl _, fun _ _ => rfl⟩
    have h2 := h1.below hb
    have HB2 := Lib.hid (HB.out.trans (Below.up hb HB.out.size))
    obtain ⟨fl, hfl⟩ : ∃ fl, fl = T.fails := ⟨_, rfl⟩
    rw [← hfl]
    have HFL := Lib.hid hfl
    clear hw2 hb h1 hfl
    go_wp2_with fail
    obtain ⟨w3, hw3⟩ : ∃ w3, w3 = w2.alloc (.cells #[.pointer (some ⟨tb, 0, none⟩), .int .i64 1, .int .i64 0, .int .i64 0, .int .i64 fl] 83) := ⟨_, rfl⟩
    rw [← hw3]
    have hlt : ∀ k, F k → k < w2.heap.size := by obtain ⟨_, _, _, t⟩ := h2; exact t.flt
    have h3 : JR w3 w2.heap.size tb (foundN T 0).1 T F := by
      refine ⟨?_, ?_, fun hf => by have := hlt _ hf; omega⟩
      · rw [hw3]
        have := Blk.new w2 #[.pointer (some ⟨tb, 0, none⟩), .int .i64 1, .int .i64 0, .int .i64 0, .int .i64 fl] 83
        rw [HFL.out] at this
        rw [HFL.out]
        exact this
      · rw [hw3]; exact h2.below ((Below.refl _ _).alloc (Nat.le_refl _) _)
    have u3 : Upd w w3 F (FJ F w2.heap.size) := by
      refine ⟨Fr.of_below (HB2.out.trans (Below.up (by rw [hw3]; exact (Below.refl _ _).alloc (Nat.le_refl _) _) HB2.out.size)), fun k hk => ?_⟩
      rcases hk with hk | hk
      · exact .inl hk
      · have := HB2.out.size; exact .inr (by omega)
    have hlj : w.heap.size ≤ w2.heap.size := HB2.out.size
    obtain ⟨jb, hjb⟩ : ∃ jb, jb = w2.heap.size := ⟨_, rfl⟩
    rw [← hjb] at h3 u3 hlj ⊢
    have H3 := Lib.hid h3
    have U3 := Lib.hid u3
    clear h3 u3 hjb hw3 HB2 h2 hlt HFL HB
    go_loopw [10, 32] (fun rv i wr => ∃ (k : Nat) (A : Option Addr) (c : Nat), k ≤ 2 ∧ i = .int .i64 (k : Int) ∧ rv = .slice A (foundN T k).2.length c ∧ Hid (JR wr jb tb (foundN T k).1 T F) ∧ Hid (RLs wr (OldX w.heap.size (FJ F jb)) A (foundN T k).2) ∧ Hid (Upd w wr F (FJ F jb))) (fun _ i _ => 2 - (intOf i).toNat)
    case atStart => exact ⟨0, none, 0, by omega, rfl, rfl, H3, Lib.hid (RLs.nil _ _ _), U3⟩
    case round =>
      clear H3 U3
      obtain ⟨k, A, c, hk, rfl, rfl, HW, HL, HU⟩ := hrel
      obtain ⟨⟨Jk, ls⟩, hS⟩ : ∃ S, S = foundN T k := ⟨_, rfl⟩
      rw [← hS] at HW HL ⊢
      by_cases hlt2 : k < 2
      · have hstep : foundN T (k + 1) = foundStep T (k : Int) (Jk, ls) := by rw [foundN, ← hS]
        unfold foundStep at hstep
        have HS := Lib.hid hstep
        obtain ⟨L, hL⟩ : ∃ L, L = ls.length := ⟨_, rfl⟩
        have HLL := Lib.hid hL
        try simp only at HW HL ⊢
        rw [← hL]
        clear hstep hS hL
        go_wp2_with fail
        refine (look_any tb (k : Int) T F wr HW.out.tape).mono ?_
        rintro e w5 ⟨lv, rfl, hol, hb5⟩
        have h5 := HW.out.below hb5
        have hr5 := HL.out.upd (Upd.of_below hb5)
        obtain ⟨A5, c5, rfl, hr6⟩ := hol.rls (X := OldX w.heap.size (FJ F jb)) (fun k hk => by
          obtain ⟨_, _, _, t⟩ := HW.out.tape
          have := HW.out.blk.lt
          rcases hk with (hk | hk) | hk
          · exact t.flt _ hk
          · omega
          · exact Nat.lt_of_lt_of_le hk HU.out.fr.size)
        have HR5 := Lib.hid hr5
        have HR6 := Lib.hid hr6
        have H5 := Lib.hid h5
        have U5 := Lib.hid (HU.out.trans (Upd.of_below hb5))
        have ct := h5.c2
        have f1 := h5.blk.free 1
        have f2 := h5.blk.free 2
        have c1 := h5.c1
        obtain ⟨tk, htk⟩ : ∃ tk, tk = turnOf (framesP (T.read (k : Int))) := ⟨_, rfl⟩
        obtain ⟨M, hM⟩ : ∃ M, M = (recsOf (framesP (T.read (k : Int)))).length := ⟨_, rfl⟩
        obtain ⟨jt, hjt⟩ : ∃ jt, jt = Jk.turn := ⟨_, rfl⟩
        have hs := HS.out
        unfold turnA recsA at hs
        try simp only at hs
        rw [← htk, ← hjt] at hs
        rw [← hjt] at ct
        rw [← htk, ← hM]
        have HS := Lib.hid hs
        have HM := Lib.hid hM
        clear hb5 hol hr5 hr6 h5 htk hM hjt hs
        by_cases hlt3 : jt < tk
        · have hs := HS.out
          rw [if_pos hlt3] at hs
          have HS := Lib.hid hs
          clear hs
          go_wp2_with fail
          go_roundw
          case rel =>
            obtain ⟨k1, v1⟩ := H5.out.set (J' := { Jk with area := (k : Int) }) 1 (.int .i64 (k : Int)) rfl
            obtain ⟨k2, v2⟩ := k1.set (J' := { Jk with area := (k : Int), turn := tk }) 2 (.int .i64 tk) rfl
            refine ⟨k + 1, A5, c5, by omega, by go_num, ?_, Lib.hid ?_, Lib.hid ?_, Lib.hid ((U5.out.trans v1).trans v2)⟩
            · rw [HS.out, HM.out]
            · rw [HS.out]; exact k2
            · rw [HS.out]; exact (HR6.out.upd v1.oldx).upd v2.oldx
          case measure => simp [intOf]; omega
        · have hs := HS.out
          rw [if_neg hlt3] at hs
          have HS := Lib.hid hs
          clear hs
          go_wp2_with fail
          go_roundw
          case rel =>
            refine ⟨k + 1, A, c, by omega, by go_num, ?_, Lib.hid ?_, Lib.hid ?_, U5⟩
            · rw [HS.out, HLL.out]
            · rw [HS.out]; exact H5.out
            · rw [HS.out]; exact HR5.out
          case measure => simp [intOf]; omega
      · have hk2 : k = 2 := by omega
        subst hk2
        have hfo := foundN_ok T 2 (Nat.le_refl _)
        have hfe : found T = (Jk, ls) := hS.symm
        rw [← hS] at hfo
        have hop := HOP.out
        rw [hfe] at hop
        try simp only at hop hfo HW HL ⊢
        have hrl : ls.length ≤ 2000000000 := by
          obtain ⟨_, _, _, t⟩ := HW.out.tape
          have r0 := TS.read_len t.wf 0
          have r1 := TS.read_len t.wf 1
          have := hfo.2
          omega
        have hcall := jlay_any A c ls HW.out (HL.out.sub (fun _ h => .inl h)) hrl hfo.1
        obtain ⟨L, hL⟩ : ∃ L, L = ls.length := ⟨_, rfl⟩
        rw [← hL] at hcall ⊢
        obtain ⟨⟨p, T', J'⟩, hp⟩ : ∃ r, r = Jk.lay T ls := ⟨_, rfl⟩
        rw [← hp] at hcall hop
        have HOP := Lib.hid hop
        have HFE := Lib.hid hfe
        have HLL := Lib.hid hL
        have HC := Lib.hid hcall
        clear hS hfo hfe hop hrl hcall hL hp
        go_wp2_with fail
        refine HC.out.mono ?_
        rintro e w5 ⟨rfl, F', h5, u5⟩
        have H5 := Lib.hid h5
        have U5 := Lib.hid (HU.out.trans u5)
        have HR5 := Lib.hid (HL.out.upd u5.oldx)
        clear h5 u5 HC HU
        by_cases hp0 : p = 0
        · subst hp0
          go_wp2_with fail
          refine bodyPost_ret (results_tmp3 rfl _ _ _) rfl ?_
          refine ⟨F', ?_⟩
          rw [HOP.out, HFE.out, if_pos rfl]
          refine ⟨jb, A, c, ?_, H5.out, hlj, HR5.out, U5.out⟩
          rw [← HLL.out]
          rfl
        · have hp0' : (p == 0) = false := by simp [hp0]
          go_wp2_with fail
          refine bodyPost_ret (results_tmp3 rfl _ _ _) rfl ?_
          refine ⟨F', ?_⟩
          rw [HOP.out, if_neg hp0]
          exact ⟨rfl, H5.out.tape, U5.out.fr, fun k hk => U5.out.new k (.inl hk)⟩

end Go.Proofs.YtdhafdejionefaaGreat

/- The document's journal: Open, Sure. -/
namespace Go.Proofs.YtdhafdejionefaaGreat
set_option linter.unusedVariables false
set_option linter.unusedSimpArgs false
open Go.RowKit

theorem found_gt (T : TS) (h : turnA T 0 < turnA T 1) : found T = (⟨1, turnA T 1, 0, T.fails⟩, recsA T 1) := by
  have h0 : 0 ≤ turnA T 0 := (turnOf_bound _).1
  show foundStep T 1 (foundStep T 0 (⟨1, 0, 0, T.fails⟩, [])) = _
  unfold foundStep
  by_cases h2 : (0 : Int) < turnA T 0
  · simp [h2, h]
  · have h3 : (0 : Int) < turnA T 1 := by omega
    simp [h2, h3]
theorem found_le (T : TS) (h : ¬ turnA T 0 < turnA T 1) (h0 : 0 < turnA T 0) : found T = (⟨0, turnA T 0, 0, T.fails⟩, recsA T 0) := by
  show foundStep T 1 (foundStep T 0 (⟨1, 0, 0, T.fails⟩, [])) = _
  unfold foundStep
  simp [h0, h]
theorem found_none (T : TS) (h0 : turnA T 0 = 0) (h1 : turnA T 1 = 0) : found T = (⟨1, 0, 0, T.fails⟩, []) := by
  show foundStep T 1 (foundStep T 0 (⟨1, 0, 0, T.fails⟩, [])) = _
  unfold foundStep
  simp [h0, h1]
def ROpenPost (w : World) (rb : Nat) (F : Nat → Prop) (T : TS) (e : Ending) (w' : World) : Prop :=
  ∃ F', if (openP T).1 = 0 then ∃ rj A c, e = .returned (.tuple #[.pointer (some ⟨rj, 0, none⟩), .slice A (found T).2.length c, .int .i64 0]) ∧ RJ w' rj rb (openP T).2.2 (openP T).2.1 F' ∧ w.heap.size ≤ rj ∧ RLs w' (OldX w.heap.size (FJ F' rj)) A (found T).2 ∧ Upd w w' F (FJ F' rj)
  else e = .returned (.tuple #[.pointer none, .slice none 0 0, .int .i64 (openP T).1]) ∧ RefR w' rb (openP T).2.1 F' ∧ Upd w w' F F'
theorem RefR.dark {w : World} {rb : Nat} {T : TS} {F : Nat → Prop} (h : RefR w rb T F) : w.cell? ⟨rb, 5, none⟩ = some (.bool T.off) := by obtain ⟨l, k, u0, u1, t⟩ := h; exact t.blk.cell 5
theorem RefR.tfails {w : World} {rb : Nat} {T : TS} {F : Nat → Prop} (h : RefR w rb T F) : w.cell? ⟨rb, 10, none⟩ = some (.int .i64 T.fails) := by obtain ⟨l, k, u0, u1, t⟩ := h; exact t.blk.cell 10
theorem RefR.flt {w : World} {rb : Nat} {T : TS} {F : Nat → Prop} (h : RefR w rb T F) : ∀ k, F k → k < w.heap.size := by obtain ⟨l, k, u0, u1, t⟩ := h; exact t.flt
theorem RefR.wf {w : World} {rb : Nat} {T : TS} {F : Nat → Prop} (h : RefR w rb T F) : T.ok := by obtain ⟨l, k, u0, u1, t⟩ := h; exact t.wf
variable {w : World} {rb : Nat} {T : TS} {F : Nat → Prop}
theorem rj_made (H : RefR w rb T F) (J : JS) : RJ (w.alloc (.cells (rjcells rb J) 47)) w.heap.size rb J T F ∧ Upd w (w.alloc (.cells (rjcells rb J) 47)) F (FJ F w.heap.size) := by
  refine ⟨⟨Blk.new w _ _, H.below ((Below.refl _ _).alloc (Nat.le_refl _) _), fun hf => by have := H.flt _ hf; omega⟩, Fr.of_below ((Below.refl _ _).alloc (Nat.le_refl _) _), fun k hk => ?_⟩
  rcases hk with hk | hk
  · exact .inl hk
  · exact .inr (by omega)
set_option maxRecDepth 100000 in
set_option maxHeartbeats 8000000 in
theorem rjopen_any (h : RefR w rb T F) : Calls Tryz.prog 24 #[.pointer (some ⟨rb, 0, none⟩)] w (ROpenPost w rb F T) := by
  have hd := h.dark
  by_cases ho : T.off = true
  · rw [ho] at hd
    have ho' : openP T = (150, T, (found T).1) := by unfold openP; rw [if_pos ho]
    have HO := Lib.hid ho'
    have H := Lib.hid h
    clear ho ho' h
    go_enter Tryz.func24, Tryz.ntmps24
    go_wp2_with fail
    refine bodyPost_ret (results_tmp3 rfl _ _ _) rfl ?_
    refine ⟨F, ?_⟩
    rw [HO.out, if_neg (by simp)]
    exact ⟨rfl, H.out, Upd.of_below (Below.refl _ _)⟩
  · have ho0 : T.off = false := by simpa using ho
    rw [ho0] at hd
    have hop : openP T = (found T).1.lay T (found T).2 := by unfold openP; rw [if_neg ho]
    have HOP := Lib.hid hop
    have H := Lib.hid h
    have hlb : (T.read 0).length ≤ 1073741824 ∧ (T.read 1).length ≤ 1073741824 := ⟨TS.read_len h.wf 0, TS.read_len h.wf 1⟩
    have HLB := Lib.hid hlb
    clear ho hop ho0 h hlb
    go_enter Tryz.func24, Tryz.ntmps24
    go_wp2_with fail
    refine (rarea_any rb 0 T F w H.out).mono ?_
    rintro e w1 ⟨lv0, rfl, hol0, hb1⟩
    have H1 := Lib.hid (H.out.below hb1)
    obtain ⟨A0, c0, rfl, hl0⟩ := hol0.rls (X := OldX w.heap.size F) (fun k hk => hk.elim (H.out.flt k) id)
    have HL0 := Lib.hid (show RLs w1 (OldX w.heap.size F) A0 (recsA T 0) from hl0)
    have HB1 := Lib.hid hb1
    obtain ⟨t0, ht0⟩ : ∃ t0, t0 = turnOf (framesP (T.read 0)) := ⟨_, rfl⟩
    obtain ⟨n0, hn0⟩ : ∃ n0, n0 = (recsOf (framesP (T.read 0))).length := ⟨_, rfl⟩
    rw [← ht0, ← hn0]
    have HT0 := Lib.hid (show t0 = turnA T 0 from ht0)
    have HN0 := Lib.hid (show n0 = (recsA T 0).length from hn0)
    have ht0b : 0 ≤ t0 ∧ t0 ≤ 1099511627776 := by rw [ht0]; exact turnOf_bound _
    clear hol0 hl0 hb1 ht0 hn0
    go_wp2_with fail
    refine (rarea_any rb 1 T F w1 H1.out).mono ?_
    rintro e w2 ⟨lv1, rfl, hol1, hb2⟩
    have H2 := Lib.hid (H1.out.below hb2)
    obtain ⟨A1, c1, rfl, hl1⟩ := hol1.rls (X := OldX w.heap.size F) (fun k hk => hk.elim (H1.out.flt k) (fun h => Nat.lt_of_lt_of_le h HB1.out.size))
    have HL1 := Lib.hid (show RLs w2 (OldX w.heap.size F) A1 (recsA T 1) from hl1)
    have HL02 := Lib.hid (HL0.out.upd (Upd.of_below hb2))
    have HB2 := Lib.hid (HB1.out.trans (Below.up hb2 HB1.out.size))
    obtain ⟨t1, ht1⟩ : ∃ t1, t1 = turnOf (framesP (T.read 1)) := ⟨_, rfl⟩
    obtain ⟨n1, hn1⟩ : ∃ n1, n1 = (recsOf (framesP (T.read 1))).length := ⟨_, rfl⟩
    rw [← ht1, ← hn1]
    have HT1 := Lib.hid (show t1 = turnA T 1 from ht1)
    have HN1 := Lib.hid (show n1 = (recsA T 1).length from hn1)
    have ht1b : 0 ≤ t1 ∧ t1 ≤ 1099511627776 := by rw [ht1]; exact turnOf_bound _
    have hfa := H2.out.tfails
    obtain ⟨fl, hfl⟩ : ∃ fl, fl = T.fails := ⟨_, rfl⟩
    rw [← hfl] at hfa
    have HFL := Lib.hid hfl
    have hlj : w.heap.size ≤ w2.heap.size := HB2.out.size
    clear hol1 hl1 hb2 ht1 hn1 hfl hd HL0 H1 HB1
    obtain ⟨ht00, ht01⟩ := ht0b
    obtain ⟨ht10, ht11⟩ := ht1b
    by_cases hgt : t0 < t1
    · have HFE := Lib.hid (found_gt T (by rw [← HT0.out, ← HT1.out]; exact hgt))
      rw [← HT1.out, ← HFL.out] at HFE
      have hz1 : (t1 == 0) = false := by simp; omega
      obtain ⟨k2, v2⟩ := rj_made H2.out (⟨1, t1, 0, fl⟩ : JS)
      obtain ⟨w6, hw6⟩ : ∃ w6, w6 = w2.alloc (.cells (rjcells rb (⟨1, t1, 0, fl⟩ : JS)) 47) := ⟨_, rfl⟩
      rw [← hw6] at k2 v2
      obtain ⟨rj, hrj⟩ : ∃ rj, rj = w2.heap.size := ⟨_, rfl⟩
      rw [← hrj] at k2 v2 hlj
      have HRJ := Lib.hid hrj
      have HJ6 := Lib.hid k2
      have U6 := Lib.hid ((Upd.of_below HB2.out).trans v2)
      have HL6 := Lib.hid (HL1.out.upd v2.oldx)
      have HW6 := Lib.hid (show w6 = w2.alloc (.cells #[.pointer (some ⟨rb, 0, none⟩), .int .i64 1, .int .i64 t1, .int .i64 fl] 47) from hw6)
      clear k2 v2 hw6 hrj
      by_cases hz0 : t0 = 0
      · subst hz0
        go_wp2_with (go_at_call 36; refine (fun (h : Hid _) => h.out) ?_)
        refine Lib.hid ?_
        rw [← HRJ.out, ← HW6.out]
        have hcall := rjlay_any A1 c1 (recsA T 1) HJ6.out (HL6.out.sub (fun _ h => .inl h)) (by have h1 := recsOf_len (framesP (T.read 1)); have h2 := framesP_len (T.read 1); have h3 := HLB.out.2; unfold recsA; omega) ⟨.inr rfl, ht10, ht11⟩
        rw [← HN1.out] at hcall
        obtain ⟨⟨p, T', J'⟩, hp⟩ : ∃ r, r = (⟨1, t1, 0, fl⟩ : JS).lay T (recsA T 1) := ⟨_, rfl⟩
        have hop := HOP.out
        rw [HFE.out] at hop
        have hop : openP T = (⟨1, t1, 0, fl⟩ : JS).lay T (recsA T 1) := hop
        rw [← hp] at hcall hop
        have HOP2 := Lib.hid hop
        have HC := Lib.hid hcall
        clear hop hcall hp
        go_wp2_with fail
        refine HC.out.mono ?_
        rintro e w7 ⟨rfl, F', h7, u7⟩
        have H7 := Lib.hid h7
        have U7 := Lib.hid (U6.out.trans u7)
        have HR7 := Lib.hid (HL6.out.upd u7.oldx)
        clear h7 u7 HC
        by_cases hp0 : p = 0
        · subst hp0
          go_wp2_with fail
          refine bodyPost_ret (results_tmp3 rfl _ _ _) rfl ?_
          refine ⟨F', ?_⟩
          rw [HOP2.out, HFE.out, if_pos rfl]
          exact ⟨rj, A1, c1, (by rw [← HN1.out]; rfl), H7.out, hlj, HR7.out, U7.out⟩
        · have hp0' : (p != 0) = true := by simp [hp0]
          go_wp2_with fail
          refine bodyPost_ret (results_tmp3 rfl _ _ _) rfl ?_
          refine ⟨F', ?_⟩
          rw [HOP2.out, if_neg hp0]
          exact ⟨rfl, H7.out.tape, U7.out.fr, fun k hk => U7.out.new k (.inl hk)⟩
      · have hz0' : (t0 == 0) = false := by simp [hz0]
        go_wp2_with (go_at_call 36; refine (fun (h : Hid _) => h.out) ?_)
        refine Lib.hid ?_
        rw [← HRJ.out, ← HW6.out]
        have hcall := rjlay_any A1 c1 (recsA T 1) HJ6.out (HL6.out.sub (fun _ h => .inl h)) (by have h1 := recsOf_len (framesP (T.read 1)); have h2 := framesP_len (T.read 1); have h3 := HLB.out.2; unfold recsA; omega) ⟨.inr rfl, ht10, ht11⟩
        rw [← HN1.out] at hcall
        obtain ⟨⟨p, T', J'⟩, hp⟩ : ∃ r, r = (⟨1, t1, 0, fl⟩ : JS).lay T (recsA T 1) := ⟨_, rfl⟩
        have hop := HOP.out
        rw [HFE.out] at hop
        have hop : openP T = (⟨1, t1, 0, fl⟩ : JS).lay T (recsA T 1) := hop
        rw [← hp] at hcall hop
        have HOP2 := Lib.hid hop
        have HC := Lib.hid hcall
        clear hop hcall hp
        go_wp2_with fail
        refine HC.out.mono ?_
        rintro e w7 ⟨rfl, F', h7, u7⟩
        have H7 := Lib.hid h7
        have U7 := Lib.hid (U6.out.trans u7)
        have HR7 := Lib.hid (HL6.out.upd u7.oldx)
        clear h7 u7 HC
        by_cases hp0 : p = 0
        · subst hp0
          go_wp2_with fail
          refine bodyPost_ret (results_tmp3 rfl _ _ _) rfl ?_
          refine ⟨F', ?_⟩
          rw [HOP2.out, HFE.out, if_pos rfl]
          exact ⟨rj, A1, c1, (by rw [← HN1.out]; rfl), H7.out, hlj, HR7.out, U7.out⟩
        · have hp0' : (p != 0) = true := by simp [hp0]
          go_wp2_with fail
          refine bodyPost_ret (results_tmp3 rfl _ _ _) rfl ?_
          refine ⟨F', ?_⟩
          rw [HOP2.out, if_neg hp0]
          exact ⟨rfl, H7.out.tape, U7.out.fr, fun k hk => U7.out.new k (.inl hk)⟩
    · by_cases hz0 : t0 = 0
      · have hz1 : t1 = 0 := by omega
        subst hz0
        subst hz1
        have HFE := Lib.hid (found_none T HT0.out.symm HT1.out.symm)
        rw [← HFL.out] at HFE
        have HLN := Lib.hid (RLs.nil w2 (OldX w.heap.size F) none)
        obtain ⟨k2, v2⟩ := rj_made H2.out (⟨1, 0, 0, fl⟩ : JS)
        obtain ⟨w6, hw6⟩ : ∃ w6, w6 = w2.alloc (.cells (rjcells rb (⟨1, 0, 0, fl⟩ : JS)) 47) := ⟨_, rfl⟩
        rw [← hw6] at k2 v2
        obtain ⟨rj, hrj⟩ : ∃ rj, rj = w2.heap.size := ⟨_, rfl⟩
        rw [← hrj] at k2 v2 hlj
        have HRJ := Lib.hid hrj
        have HJ6 := Lib.hid k2
        have U6 := Lib.hid ((Upd.of_below HB2.out).trans v2)
        have HL6 := Lib.hid (HLN.out.upd v2.oldx)
        have HW6 := Lib.hid (show w6 = w2.alloc (.cells #[.pointer (some ⟨rb, 0, none⟩), .int .i64 1, .int .i64 0, .int .i64 fl] 47) from hw6)
        clear k2 v2 hw6 hrj
        go_wp2_with (go_at_call 36; refine (fun (h : Hid _) => h.out) ?_)
        refine Lib.hid ?_
        rw [← HRJ.out, ← HW6.out]
        have hcall := rjlay_any none 0 [] HJ6.out (HL6.out.sub (fun _ h => .inl h)) (by simp) ⟨.inr rfl, ht00, ht01⟩
        obtain ⟨⟨p, T', J'⟩, hp⟩ : ∃ r, r = (⟨1, 0, 0, fl⟩ : JS).lay T [] := ⟨_, rfl⟩
        have hop := HOP.out
        rw [HFE.out] at hop
        have hop : openP T = (⟨1, 0, 0, fl⟩ : JS).lay T [] := hop
        rw [← hp] at hcall hop
        have HOP2 := Lib.hid hop
        have HC := Lib.hid hcall
        clear hop hcall hp
        go_wp2_with fail
        refine HC.out.mono ?_
        rintro e w7 ⟨rfl, F', h7, u7⟩
        have H7 := Lib.hid h7
        have U7 := Lib.hid (U6.out.trans u7)
        have HR7 := Lib.hid (HL6.out.upd u7.oldx)
        clear h7 u7 HC
        by_cases hp0 : p = 0
        · subst hp0
          go_wp2_with fail
          refine bodyPost_ret (results_tmp3 rfl _ _ _) rfl ?_
          refine ⟨F', ?_⟩
          rw [HOP2.out, HFE.out, if_pos rfl]
          exact ⟨rj, none, 0, rfl, H7.out, hlj, HR7.out, U7.out⟩
        · have hp0' : (p != 0) = true := by simp [hp0]
          go_wp2_with fail
          refine bodyPost_ret (results_tmp3 rfl _ _ _) rfl ?_
          refine ⟨F', ?_⟩
          rw [HOP2.out, if_neg hp0]
          exact ⟨rfl, H7.out.tape, U7.out.fr, fun k hk => U7.out.new k (.inl hk)⟩
      · have HFE := Lib.hid (found_le T (by rw [← HT0.out, ← HT1.out]; exact hgt) (by rw [← HT0.out]; omega))
        rw [← HT0.out, ← HFL.out] at HFE
        have hz0' : (t0 == 0) = false := by simp [hz0]
        obtain ⟨k2, v2⟩ := rj_made H2.out (⟨0, t0, 0, fl⟩ : JS)
        obtain ⟨w6, hw6⟩ : ∃ w6, w6 = w2.alloc (.cells (rjcells rb (⟨0, t0, 0, fl⟩ : JS)) 47) := ⟨_, rfl⟩
        rw [← hw6] at k2 v2
        obtain ⟨rj, hrj⟩ : ∃ rj, rj = w2.heap.size := ⟨_, rfl⟩
        rw [← hrj] at k2 v2 hlj
        have HRJ := Lib.hid hrj
        have HJ6 := Lib.hid k2
        have U6 := Lib.hid ((Upd.of_below HB2.out).trans v2)
        have HL6 := Lib.hid (HL02.out.upd v2.oldx)
        have HW6 := Lib.hid (show w6 = w2.alloc (.cells #[.pointer (some ⟨rb, 0, none⟩), .int .i64 0, .int .i64 t0, .int .i64 fl] 47) from hw6)
        clear k2 v2 hw6 hrj
        go_wp2_with (go_at_call 36; refine (fun (h : Hid _) => h.out) ?_)
        refine Lib.hid ?_
        rw [← HRJ.out, ← HW6.out]
        have hcall := rjlay_any A0 c0 (recsA T 0) HJ6.out (HL6.out.sub (fun _ h => .inl h)) (by have h1 := recsOf_len (framesP (T.read 0)); have h2 := framesP_len (T.read 0); have h3 := HLB.out.1; unfold recsA; omega) ⟨.inl rfl, ht00, ht01⟩
        rw [← HN0.out] at hcall
        obtain ⟨⟨p, T', J'⟩, hp⟩ : ∃ r, r = (⟨0, t0, 0, fl⟩ : JS).lay T (recsA T 0) := ⟨_, rfl⟩
        have hop := HOP.out
        rw [HFE.out] at hop
        have hop : openP T = (⟨0, t0, 0, fl⟩ : JS).lay T (recsA T 0) := hop
        rw [← hp] at hcall hop
        have HOP2 := Lib.hid hop
        have HC := Lib.hid hcall
        clear hop hcall hp
        go_wp2_with fail
        refine HC.out.mono ?_
        rintro e w7 ⟨rfl, F', h7, u7⟩
        have H7 := Lib.hid h7
        have U7 := Lib.hid (U6.out.trans u7)
        have HR7 := Lib.hid (HL6.out.upd u7.oldx)
        clear h7 u7 HC
        by_cases hp0 : p = 0
        · subst hp0
          go_wp2_with fail
          refine bodyPost_ret (results_tmp3 rfl _ _ _) rfl ?_
          refine ⟨F', ?_⟩
          rw [HOP2.out, HFE.out, if_pos rfl]
          exact ⟨rj, A0, c0, (by rw [← HN0.out]; rfl), H7.out, hlj, HR7.out, U7.out⟩
        · have hp0' : (p != 0) = true := by simp [hp0]
          go_wp2_with fail
          refine bodyPost_ret (results_tmp3 rfl _ _ _) rfl ?_
          refine ⟨F', ?_⟩
          rw [HOP2.out, if_neg hp0]
          exact ⟨rfl, H7.out.tape, U7.out.fr, fun k hk => U7.out.new k (.inl hk)⟩

end Go.Proofs.YtdhafdejionefaaGreat
