/- The walk of the journal's lay. -/
import Derived.Test.YtnkenkdglcmpdaaJouN
namespace Go.Proofs.Ytnkenkdglcmpdaa
set_option linter.unusedVariables false
set_option linter.unusedSimpArgs false
open Go.RowKit

/-- A slice that reads as records; none of its bytes lies in a block of X. -/
def RLs (w : World) (X : Nat → Prop) (A : Option Addr) (ls : List (List UInt8)) : Prop :=
  ∀ (j : Nat) (l : List UInt8), ls[j]? = some l → ∃ b off c, A = some ⟨b, off, none⟩ ∧ b < w.heap.size ∧ ¬ X b ∧ w.cell? ⟨b, off + j, none⟩ = some c ∧ CB 0 X w c l
theorem RLs.upd {w w' : World} {X X' : Nat → Prop} {A : Option Addr} {ls : List (List UInt8)} (h : RLs w X A ls) (u : Upd w w' X X') : RLs w' X' A ls := by
  intro j l hj
  obtain ⟨b, off, c, hA, hb, hX, hc, A1, n, e1, e2, e3, e4⟩ := h j l hj
  have hn : ∀ k, k < w.heap.size → ¬ X k → ¬ X' k := fun k hk hx hx' => (u.new k hx').elim hx (fun h => by omega)
  refine ⟨b, off, c, hA, Nat.lt_of_lt_of_le hb u.fr.size, hn b hb hX, ?_, A1, n, e1, e2, e3.fr2 u.fr (fun a ha h0 => (e4 a ha h0).2), fun a ha h0 => ⟨Nat.zero_le _, hn _ (rb_lt e3 a ha h0) (e4 a ha h0).2⟩⟩
  have : w'.cell? ⟨b, off + j, none⟩ = w.cell? ⟨b, off + j, none⟩ := by
    unfold World.cell?
    rw [u.fr.block b hb hX]
  rw [this]; exact hc
theorem RLs.mono {w : World} {X Y : Nat → Prop} {A : Option Addr} {ls : List (List UInt8)} (h : RLs w X A ls) (hY : ∀ k, k < w.heap.size → Y k → X k) : RLs w Y A ls := by
  intro j l hj
  obtain ⟨b, off, c, hA, hb, hX, hc, hcb⟩ := h j l hj
  exact ⟨b, off, c, hA, hb, fun hy => hX (hY b hb hy), hc, hcb.mono (Nat.le_refl _) hY⟩
theorem layPut_n {a : Int} {f : List UInt8} {s : Int × Int × TS} {m : Int} (h0 : 0 ≤ s.1) (h1 : s.1 ≤ m) (hm : m ≤ 4000000000000000000) (hf : f.length ≤ 1000000000) :
    0 ≤ (layPut a f s).1 ∧ (layPut a f s).1 ≤ m + 1000000000 := by
  unfold layPut
  split
  · simp only; rw [IntWalk.wrap64_in _ (by omega)]; omega
  · omega
theorem layFold_snoc (a : Int) (ls : List (List UInt8)) (l : List UInt8) (s : Int × Int × TS) : layFold a (ls ++ [l]) s = layPut a (frameB 68 l) (layFold a ls s) := by simp [layFold]
theorem take_snoc {α : Type} (ls : List α) (k : Nat) (l : α) (h : ls[k]? = some l) : ls.take (k + 1) = ls.take k ++ [l] := by
  rw [List.take_add_one, h]; rfl
theorem frameB_small (k : UInt8) (xs : List UInt8) (h : xs.length ≤ 4194304) : (frameB k xs).length ≤ 1000000000 := by
  have := nbytes_small (n := xs.length) (by omega)
  rw [frameB_len]; omega
variable {w : World} {jb tb : Nat} {J : JS} {T : TS} {F : Nat → Prop}
set_option maxRecDepth 100000 in
set_option maxHeartbeats 8000000 in
theorem lay_any (a : Int) (A : Option Addr) (c : Nat) (ls : List (List UInt8)) (h : JR w jb tb J T F) (hr : RLs w F A ls) (hl : ls.length ≤ 2000000000) (hs : ∀ l ∈ ls, l.length ≤ 4194304) (ht : 0 ≤ J.turn ∧ J.turn < 1099511627776) :
    Calls Try.prog 81 #[.pointer (some ⟨jb, 0, none⟩), .int .i64 a, .slice A ls.length c] w fun e w' => e = .returned (.tuple #[.int .i64 (layN T a J.turn ls).1, .int .i64 (layN T a J.turn ls).2.1]) ∧
      ∃ F', JR w' jb tb J (layN T a J.turn ls).2.2 F' ∧ Upd w w' F F' := by
  obtain ⟨r, hrr⟩ : ∃ r, r = layN T a J.turn ls := ⟨_, rfl⟩
  rw [← hrr]
  unfold layN at hrr
  obtain ⟨N, hN⟩ : ∃ N, N = ls.length := ⟨_, rfl⟩
  rw [← hN] at hl ⊢
  have HN := Lib.hid hN
  have HR := Lib.hid hrr
  have HL := Lib.hid hr
  have HS := Lib.hid hs
  have HT := Lib.hid ht
  have H := Lib.hid h
  clear hrr hr hs ht h hN
  go_enter Try.func81, Try.ntmps81
  go_wp2_with fail
  obtain ⟨w1, hw1⟩ : ∃ w1, w1 = (((w.alloc (.cells #[.pointer (some ⟨jb, 0, none⟩)] 69)).alloc (.cells #[.int .i64 a] 3)).alloc (.cells #[.int .i64 0] 3)).alloc (.cells #[.int .i64 0] 38) := ⟨_, rfl⟩
  rw [← hw1]
  have hb1 : Below w.heap.size w w1 := by
    rw [hw1]; exact ((((Below.refl _ w).alloc (Nat.le_refl _) _).alloc (by simp) _).alloc (by simp; omega) _).alloc (by simp; omega) _
  have hL1 : LayR w1 w.heap.size jb tb J a (0, 0, T) F := by
    refine ⟨H.out.below hb1, ?_, ?_, ?_, ?_, fun i h1 h2 => ⟨fun hf => ?_, fun e => ?_⟩⟩
    · rw [hw1]; exact (((Blk.new w _ _).alloc _).alloc _).alloc _
    · rw [hw1]
      have := Blk.new (w.alloc (.cells #[.pointer (some ⟨jb, 0, none⟩)] 69)) #[.int .i64 a] 3
      rw [World.size_alloc] at this
      exact (this.alloc _).alloc _
    · rw [hw1]
      have := Blk.new ((w.alloc (.cells #[.pointer (some ⟨jb, 0, none⟩)] 69)).alloc (.cells #[.int .i64 a] 3)) #[.int .i64 0] 3
      rw [World.size_alloc, World.size_alloc] at this
      exact this.alloc _
    · rw [hw1]
      have := Blk.new (((w.alloc (.cells #[.pointer (some ⟨jb, 0, none⟩)] 69)).alloc (.cells #[.int .i64 a] 3)).alloc (.cells #[.int .i64 0] 3)) #[.int .i64 0] 38
      rw [World.size_alloc, World.size_alloc, World.size_alloc] at this
      exact this
    · obtain ⟨_, _, _, t⟩ := H.out.tape
      have := t.flt _ hf
      omega
    · have := H.out.blk.lt; omega
  have u1 : Upd w w1 F (FS F w.heap.size) := ⟨Fr.of_below hb1, fun k hk => by
    rcases hk with hk | hk
    · exact .inl hk
    · exact .inr (by omega)⟩
  have U1 := Lib.hid u1
  clear hw1 u1 hb1
  simp only [Nat.add_assoc, Nat.reduceAdd]
  refine wp_region_phased (fun W => W.cell? ⟨w.heap.size, 0, none⟩ = some (.pointer (some ⟨jb, 0, none⟩)) ∧ W.cell? ⟨jb, 0, none⟩ = some (.pointer (some ⟨tb, 0, none⟩)) ∧ W.cell? ⟨w.heap.size + 1, 0, none⟩ = some (.int .i64 a)) 6 (by kernel_rfl) ⟨hL1.cs, hL1.jr.c0, hL1.ca⟩ (fun hS => ?_)
  have h2 := hL1.below (Below.refl _ _).drew
  refine wpAnyP_load (v := ?_) 0 (by kernel_rfl) (at_toArray rfl) (by kernel_rfl) (by kernel_rfl) (by kernel_rfl) (fun _ _ _ h => h) (by first | assumption | rfl) (Or.inl ⟨by rfl, fun W hS => ?_⟩) ?_
  rotate_left 1
  · (obtain ⟨_, _, _⟩ := hS; go_simp <;> (try go_bits) <;> with_reducible rfl)
  simp only [Act.put, List.setIfInBounds_toArray, List.set_cons_zero, List.set_cons_succ]
  refine wpAnyP_pure (v := ?_) 1 (at_toArray rfl) (by kernel_rfl) (by kernel_rfl) (by kernel_rfl) (fun _ _ _ h => h) (Or.inl ⟨by rfl, fun W => ?_⟩) ?_
  rotate_left 1
  · (go_simp <;> (try go_bits) <;> with_reducible rfl)
  simp only [Act.put, List.setIfInBounds_toArray, List.set_cons_zero, List.set_cons_succ]
  refine wpAnyP_pure (v := ?_) 2 (at_toArray rfl) (by kernel_rfl) (by kernel_rfl) (by kernel_rfl) (fun _ _ _ h => h) (Or.inl ⟨by rfl, fun W => ?_⟩) ?_
  rotate_left 1
  · (go_simp <;> (try go_bits) <;> with_reducible rfl)
  simp only [Act.put, List.setIfInBounds_toArray, List.set_cons_zero, List.set_cons_succ]
  refine wpAnyP_load (v := ?_) 3 (by kernel_rfl) (at_toArray rfl) (by kernel_rfl) (by kernel_rfl) (by kernel_rfl) (fun _ _ _ h => h) (by first | assumption | rfl) (Or.inl ⟨by rfl, fun W hS => ?_⟩) ?_
  rotate_left 1
  · (obtain ⟨_, _, _⟩ := hS; go_simp <;> (try go_bits) <;> with_reducible rfl)
  simp only [Act.put, List.setIfInBounds_toArray, List.set_cons_zero, List.set_cons_succ]
  refine wpAnyP_load (v := ?_) 4 (by kernel_rfl) (at_toArray rfl) (by kernel_rfl) (by kernel_rfl) (by kernel_rfl) (fun _ _ _ h => h) (by first | assumption | rfl) (Or.inl ⟨by rfl, fun W hS => ?_⟩) ?_
  rotate_left 1
  · (obtain ⟨_, _, _⟩ := hS; go_simp <;> (try go_bits) <;> with_reducible rfl)
  simp only [Act.put, List.setIfInBounds_toArray, List.set_cons_zero, List.set_cons_succ]
  refine wpAnyP_one 5 (at_toArray rfl) (by kernel_rfl) rfl (fun K hK => ?_)
  go_wp2_with fail
  refine (clear_any tb a T F _ h2.jr.tape).mono ?_
  obtain ⟨⟨p, T0⟩, hp⟩ : ∃ p, p = T.clear a := ⟨_, rfl⟩
  have hr := HR.out
  rw [← hp] at hr ⊢
  rintro e w3 ⟨rfl, F3, ht, hu⟩
  obtain ⟨h3, u3⟩ := h2.upd ht hu
  have U3 := Lib.hid (U1.out.trans (Upd.trans (Upd.of_below (Below.refl _ _).drew) u3))
  have c3 := h3.be.cell 0
  have f3 := h3.be.free 0
  have H3 := Lib.hid h3
  clear ht hu u3 hL1 h2 HR hp h3
  have HR := Lib.hid hr
  clear hr
  go_wp2_with fail
  refine hK.out _ _ (fun _ _ => ⟨H3.out.cs, H3.out.jr.c0, H3.out.ca⟩) ?_
  clear hK
  refine wpAnyP_one 6 (at_toArray rfl) (by kernel_rfl) rfl (fun K hK => ?_)
  go_wp2_with fail
  refine hK.out _ _ (fun h => absurd h (by decide)) ?_
  clear hK
  refine wpAnyP_done (by kernel_rfl) ?_ _
  obtain ⟨h4, u4⟩ := H3.out.setE p
  obtain ⟨w4, hw4⟩ : ∃ w4, w4 = w3.setCell ⟨w.heap.size + 3, 0, none⟩ (.int .i64 p) := ⟨_, rfl⟩
  rw [← hw4] at h4 u4 ⊢
  have U4 := Lib.hid (U3.out.trans u4)
  have H4 := Lib.hid h4
  have c4 := h4.ce
  simp only at c4
  clear hw4 h4 u4 c3 f3 hS
  by_cases hp0 : p = 0
  · subst hp0
    have hr := HR.out
    rw [if_neg (by simp)] at hr
    have HR := Lib.hid hr
    clear hr
    go_wp2_with fail
    go_loopw [23] (fun i wr => ∃ (k : Nat) (F' : Nat → Prop) (q : Int × Int × TS), k ≤ N ∧ i = .int .i64 (k : Int) ∧ Hid (q = layFold a (ls.take k) (0, 0, T0)) ∧ (0 ≤ q.1 ∧ q.1 ≤ (k : Int) * 1000000000) ∧ Hid (LayR wr w.heap.size jb tb J a q F') ∧ Hid (Upd w wr F (FS F' w.heap.size))) (fun i _ => N - (intOf i).toNat)
    case atStart => exact ⟨0, F3, (0, 0, T0), Nat.zero_le _, rfl, Lib.hid rfl, by simp, H4, U4⟩
    case round =>
      clear H4 U4 H3 U3 U1 c4
      obtain ⟨k, F', q, hk, rfl, HQ, hqb, HW, HU⟩ := hrel
      by_cases hlt : k < N
      · obtain ⟨l, hl'⟩ : ∃ l, ls[k]? = some l := ⟨_, List.getElem?_eq_getElem (by rw [← HN.out]; exact hlt)⟩
        have hrl := HL.out.upd HU.out
        obtain ⟨b, off, cc, hA, hbl, hX, hcell, A1, n1, rfl, hn1, hrb, hX1⟩ := hrl k l hl'
        subst hA
        have hls := HS.out l (List.mem_of_getElem? hl')
        obtain ⟨m, hm⟩ : ∃ m, m = l.length := ⟨_, rfl⟩
        rw [← hm] at hcell hn1
        have HM := Lib.hid hm
        have HRB := Lib.hid hrb
        have HL' := Lib.hid hl'
        clear hm hrb hl' hX1 hrl
        go_wp2_with fail
        refine (frame_n wr.heap.size 68 A1 n1 m l wr HM.out.symm (Nat.le_refl _) HRB.out (by omega)).mono ?_
        rintro e w5 ⟨A2, c2, rfl, hf2, hA2, hb2⟩
        have hw5 := HW.out.below hb2
        have hfs := frameB_small 68 l hls
        obtain ⟨fl, hfl⟩ : ∃ fl, fl = (frameB 68 l).length := ⟨_, rfl⟩
        have hcall := lay1_any A2 c2 (frameB 68 l) hw5 hf2 (fun x hx h0 => by
          have e1 := hA2 x hx
          obtain ⟨_, _, _, t⟩ := HW.out.jr.tape
          have e3 := HW.out.be.lt
          exact ⟨fun hF => by have := t.flt _ hF; omega, by omega⟩) (by omega) hfs
        rw [← hfl] at hcall ⊢
        have HC := Lib.hid hcall
        have HU5 := Lib.hid (HU.out.trans (Upd.of_below hb2))
        have hqn := layPut_n (a := a) (f := frameB 68 l) hqb.1 hqb.2 (by omega) hfs
        clear hcall hfl hw5 hf2 hA2 hb2 hcell
        go_wp2_with fail
        refine HC.out.mono ?_
        rintro e w6 ⟨rfl, F6, h6, u6⟩
        have H6 := Lib.hid h6
        have U6 := Lib.hid (HU5.out.trans u6)
        clear h6 u6 HC HU5
        go_wp2_with fail
        go_roundw
        case rel =>
          refine ⟨k + 1, F6, layPut a (frameB 68 l) q, hlt, by go_num, Lib.hid ?_, ⟨hqn.1, by have := hqn.2; omega⟩, H6, U6⟩
          rw [take_snoc ls k l HL'.out, layFold_snoc, ← HQ.out]
        case measure => simp [intOf]; omega
      · have hkN : k = N := by omega
        subst hkN
        have hq := HQ.out
        rw [HN.out, List.take_length] at hq
        have hr := HR.out
        rw [← hq] at hr
        clear HR HQ
        have HR := Lib.hid hr
        clear hr hq
        obtain ⟨tn, htn⟩ : ∃ tn : Nat, J.turn = (tn : Int) := ⟨J.turn.toNat, by have := HT.out.1; omega⟩
        have htb : tn < 1099511627776 := by have := HT.out.2; omega
        have cs := HW.out.cs
        have ct := HW.out.jr.c2
        rw [htn] at ct
        have HTN := Lib.hid htn
        clear htn
        go_wp2_with fail
        rw [show (tn : Int) + 1 = ((tn + 1 : Nat) : Int) by omega]
        refine (put_any wr.heap.size none 0 [] (tn + 1) wr (Nat.le_refl _) ⟨OB.nil _, fun j hj => by simp [Value.ownBlock] at hj⟩ rfl (by omega) (by omega)).mono ?_
        rintro e w5 ⟨v5, rfl, ho5, hb5⟩
        rw [List.nil_append] at ho5
        have hpl : (putN (tn + 1)).length ≤ 9 := by
          have := nbytes_small (n := tn + 1) (by omega)
          rw [putN_len]; omega
        obtain ⟨A5, c5, rfl, hr5, _, hA5⟩ := ho5.1.reads' (by omega)
        have hs5 := hb5.size
        obtain ⟨pl, hpl'⟩ : ∃ pl, pl = (putN (tn + 1)).length := ⟨_, rfl⟩
        rw [← hpl'] at hpl ⊢
        have HPL := Lib.hid hpl'
        have HB5 := Lib.hid hb5
        clear hpl' hA5 ho5 hb5
        go_wp2_with fail
        refine (frame_n w5.heap.size 71 A5 c5 pl (putN (tn + 1)) w5 HPL.out.symm (Nat.le_refl _) hr5 (by rw [← HPL.out]; omega)).mono ?_
        rintro e w6 ⟨A6, c6, rfl, hf6, hA6, hb6⟩
        have hw6 := (HW.out.below HB5.out).below hb6
        have hfs := frameB_small 71 (putN (tn + 1)) (by rw [← HPL.out]; omega)
        obtain ⟨fl, hfl⟩ : ∃ fl, fl = (frameB 71 (putN (tn + 1))).length := ⟨_, rfl⟩
        have hcall := lay1_any A6 c6 (frameB 71 (putN (tn + 1))) hw6 hf6 (fun x hx h0 => by
          have e1 := hA6 x hx
          obtain ⟨_, _, _, t⟩ := HW.out.jr.tape
          have e3 := HW.out.be.lt
          exact ⟨fun hF => by have := t.flt _ hF; omega, by omega⟩) (by omega) hfs
        rw [← hfl] at hcall ⊢
        have HC := Lib.hid hcall
        have HU6 := Lib.hid ((HU.out.trans (Upd.of_below HB5.out)).trans (Upd.of_below hb6))
        have hend : layPut a (frameB 71 (putN (tn + 1))) q = layEnd a J.turn q := by
          unfold layEnd
          rw [HTN.out]
          rfl
        rw [hend] at hcall HC
        obtain ⟨qe, hqe⟩ : ∃ qe, qe = layEnd a J.turn q := ⟨_, rfl⟩
        have hr := HR.out
        rw [← hqe] at hr HC
        have HR := Lib.hid hr
        clear hcall hfl hw6 hf6 hA6 hb6 hr5 hs5 hr hend cs ct hqe
        go_wp2_with fail
        refine HC.out.mono ?_
        rintro e w7 ⟨rfl, F7, h7, u7⟩
        have H7 := Lib.hid h7
        have U7 := Lib.hid (HU6.out.trans u7)
        obtain ⟨n7, e7, T7⟩ := qe
        have c7 := h7.ce
        simp only at c7
        clear h7 u7 HC HU6
        by_cases he7 : e7 = 0
        · subst he7
          have hr := HR.out
          rw [if_pos rfl] at hr
          have HR := Lib.hid hr
          clear hr
          go_wp2_with fail
          refine wp_region_phased (fun W => W.cell? ⟨w.heap.size, 0, none⟩ = some (.pointer (some ⟨jb, 0, none⟩)) ∧ W.cell? ⟨jb, 0, none⟩ = some (.pointer (some ⟨tb, 0, none⟩)) ∧ W.cell? ⟨w.heap.size + 1, 0, none⟩ = some (.int .i64 a)) 6 (by kernel_rfl) ⟨H7.out.cs, H7.out.jr.c0, H7.out.ca⟩ (fun hS => ?_)
          have h8 := H7.out.below (Below.refl _ _).drew
          refine wpAnyP_load (v := ?_) 0 (by kernel_rfl) (at_toArray rfl) (by kernel_rfl) (by kernel_rfl) (by kernel_rfl) (fun _ _ _ h => h) (by first | assumption | rfl) (Or.inl ⟨by rfl, fun W hS => ?_⟩) ?_
          rotate_left 1
          · (obtain ⟨_, _, _⟩ := hS; go_simp <;> (try go_bits) <;> with_reducible rfl)
          simp only [Act.put, List.setIfInBounds_toArray, List.set_cons_zero, List.set_cons_succ]
          refine wpAnyP_pure (v := ?_) 1 (at_toArray rfl) (by kernel_rfl) (by kernel_rfl) (by kernel_rfl) (fun _ _ _ h => h) (Or.inl ⟨by rfl, fun W => ?_⟩) ?_
          rotate_left 1
          · (go_simp <;> (try go_bits) <;> with_reducible rfl)
          simp only [Act.put, List.setIfInBounds_toArray, List.set_cons_zero, List.set_cons_succ]
          refine wpAnyP_pure (v := ?_) 2 (at_toArray rfl) (by kernel_rfl) (by kernel_rfl) (by kernel_rfl) (fun _ _ _ h => h) (Or.inl ⟨by rfl, fun W => ?_⟩) ?_
          rotate_left 1
          · (go_simp <;> (try go_bits) <;> with_reducible rfl)
          simp only [Act.put, List.setIfInBounds_toArray, List.set_cons_zero, List.set_cons_succ]
          refine wpAnyP_load (v := ?_) 3 (by kernel_rfl) (at_toArray rfl) (by kernel_rfl) (by kernel_rfl) (by kernel_rfl) (fun _ _ _ h => h) (by first | assumption | rfl) (Or.inl ⟨by rfl, fun W hS => ?_⟩) ?_
          rotate_left 1
          · (obtain ⟨_, _, _⟩ := hS; go_simp <;> (try go_bits) <;> with_reducible rfl)
          simp only [Act.put, List.setIfInBounds_toArray, List.set_cons_zero, List.set_cons_succ]
          refine wpAnyP_load (v := ?_) 4 (by kernel_rfl) (at_toArray rfl) (by kernel_rfl) (by kernel_rfl) (by kernel_rfl) (fun _ _ _ h => h) (by first | assumption | rfl) (Or.inl ⟨by rfl, fun W hS => ?_⟩) ?_
          rotate_left 1
          · (obtain ⟨_, _, _⟩ := hS; go_simp <;> (try go_bits) <;> with_reducible rfl)
          simp only [Act.put, List.setIfInBounds_toArray, List.set_cons_zero, List.set_cons_succ]
          refine wpAnyP_one 5 (at_toArray rfl) (by kernel_rfl) rfl (fun K hK => ?_)
          go_wp2_with fail
          refine (sync_any tb a T7 F7 _ h8.jr.tape).mono ?_
          obtain ⟨⟨p8, T8⟩, hp8⟩ : ∃ p, p = T7.sync a := ⟨_, rfl⟩
          have hr := HR.out
          rw [← hp8] at hr ⊢
          rintro e w9 ⟨rfl, F9, ht, hu⟩
          obtain ⟨h9, u9⟩ := h8.upd ht hu
          have U9 := Lib.hid (U7.out.trans (Upd.trans (Upd.of_below (Below.refl _ _).drew) u9))
          have c9 := h9.be.cell 0
          have f9 := h9.be.free 0
          have H9 := Lib.hid h9
          subst hr
          clear ht hu u9 h8 HR hp8 h9
          go_wp2_with fail
          refine hK.out _ _ (fun _ _ => ⟨H9.out.cs, H9.out.jr.c0, H9.out.ca⟩) ?_
          clear hK
          refine wpAnyP_one 6 (at_toArray rfl) (by kernel_rfl) rfl (fun K hK => ?_)
          go_wp2_with fail
          refine hK.out _ _ (fun h => absurd h (by decide)) ?_
          clear hK
          refine wpAnyP_done (by kernel_rfl) ?_ _
          obtain ⟨h10, u10⟩ := H9.out.setE p8
          obtain ⟨w10, hw10⟩ : ∃ w10, w10 = w9.setCell ⟨w.heap.size + 3, 0, none⟩ (.int .i64 p8) := ⟨_, rfl⟩
          rw [← hw10] at h10 u10 ⊢
          have U10 := Lib.hid (U9.out.trans u10)
          have H10 := Lib.hid h10
          have ce := h10.ce
          have cn := h10.cn
          have fn := h10.bn.free 0
          have fe := h10.be.free 0
          clear hw10 h10 u10 c9 f9 hS
          go_wp2_with fail
          go_region
          all_goals go_wp2_with fail
          obtain ⟨h11, u11⟩ := H10.out.setN n7
          obtain ⟨h12, u12⟩ := h11.setE p8
          have h13 := h12.below (Below.refl _ _).drew
          have U13 := (U10.out.trans (u11.trans u12)).trans (Upd.of_below (Below.refl _ _).drew)
          have k2 := h13.cn
          have k3 := h13.ce
          refine bodyPost_ret (v := .tuple #[.int .i64 n7, .int .i64 p8]) (by simp [results, Try.f81, go_sem, k2, k3]) rfl ⟨rfl, F9, h13.jr, U13.fr, fun k hk => U13.new k (.inl hk)⟩
        · have hr := HR.out
          rw [if_neg he7] at hr
          subst hr
          have he7' : (e7 == 0) = false := by simp [he7]
          have cn := H7.out.cn
          have fn := H7.out.bn.free 0
          have fe := H7.out.be.free 0
          clear HR
          go_wp2_with fail
          go_region
          all_goals go_wp2_with fail
          obtain ⟨h11, u11⟩ := H7.out.setN n7
          obtain ⟨h12, u12⟩ := h11.setE e7
          have h13 := h12.below (Below.refl _ _).drew
          have U13 := (U7.out.trans (u11.trans u12)).trans (Upd.of_below (Below.refl _ _).drew)
          have k2 := h13.cn
          have k3 := h13.ce
          refine bodyPost_ret (v := .tuple #[.int .i64 n7, .int .i64 e7]) (by simp [results, Try.f81, go_sem, k2, k3]) rfl ⟨rfl, F7, h13.jr, U13.fr, fun k hk => U13.new k (.inl hk)⟩
  · have hr := HR.out
    rw [if_pos hp0] at hr
    subst hr
    have hp0' : (p == 0) = false := by simp [hp0]
    have cn := H4.out.cn
    have fn := H4.out.bn.free 0
    have fe := H4.out.be.free 0
    simp only at cn
    clear HR
    go_wp2_with fail
    go_region
    all_goals go_wp2_with fail
    obtain ⟨h5, u5⟩ := H4.out.setN 0
    obtain ⟨h6, u6⟩ := h5.setE p
    have h7 := h6.below (Below.refl _ _).drew
    have U7 := (U4.out.trans (u5.trans u6)).trans (Upd.of_below (Below.refl _ _).drew)
    have k2 := h7.cn
    have k3 := h7.ce
    simp only at k2 k3
    refine bodyPost_ret (v := .tuple #[.int .i64 0, .int .i64 p]) (by simp [results, Try.f81, go_sem, k2, k3]) rfl ⟨rfl, F3, h7.jr, U7.fr, fun k hk => U7.new k (.inl hk)⟩

end Go.Proofs.Ytnkenkdglcmpdaa
