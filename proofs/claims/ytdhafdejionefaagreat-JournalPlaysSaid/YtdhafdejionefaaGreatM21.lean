/- Parts: The law JournalPlays: whatever is done to a journal and its tape, all is as the document says. -/
import Derived.Test.YtdhafdejionefaaGreatM20
/- The law JournalPlays: whatever is done to a journal and its tape, all is as the document says. -/
namespace Go.Proofs.YtdhafdejionefaaGreat
set_option linter.unusedVariables false
set_option linter.unusedSimpArgs false
open Go.RowKit

theorem cell_below {w w' : World} {p : Addr} {v : Value} (h : w.cell? p = some v) (hb : Below w.heap.size w w') : w'.cell? p = some v := (hb.cell (World.block_lt_of_cell? w _ h)).trans h
theorem six_below {w w' : World} {p1 p2 p3 p4 p5 p6 : Addr} {v1 v2 v3 v4 v5 v6 : Value} (h : w.cell? p1 = some v1 ∧ w.cell? p2 = some v2 ∧ w.cell? p3 = some v3 ∧ w.cell? p4 = some v4 ∧ w.cell? p5 = some v5 ∧ w.cell? p6 = some v6) (hb : Below w.heap.size w w') :
    w'.cell? p1 = some v1 ∧ w'.cell? p2 = some v2 ∧ w'.cell? p3 = some v3 ∧ w'.cell? p4 = some v4 ∧ w'.cell? p5 = some v5 ∧ w'.cell? p6 = some v6 :=
  ⟨cell_below h.1 hb, cell_below h.2.1 hb, cell_below h.2.2.1 hb, cell_below h.2.2.2.1 hb, cell_below h.2.2.2.2.1 hb, cell_below h.2.2.2.2.2 hb⟩
theorem bact_n (B bb tb rb : Nat) (T : TS) (F G : Nat → Prop) (jo : Option (Nat × Nat × JS)) (kind n keep : Int) (A A2 : Option Addr) (c c2 : Nat) (ys : List UInt8) (ls : List (List UInt8)) (w : World) (m m2 : Nat) (hm : ys.length = m) (hm2 : ls.length = m2)
    (h : Bth B w bb tb rb T F G jo) (hi : ActIn B w A A2 ys ls n) :
    Calls Tryz.prog 9 #[.pointer (some ⟨bb, 0, none⟩), .agg #[.int .i64 kind, .slice A m c, .slice A2 m2 c2, .int .i64 n, .int .i64 keep]] w (ActPost B w bb tb rb) := by
  subst hm
  subst hm2
  exact bact_any B bb tb rb T F G jo kind n keep A A2 c c2 ys ls w h hi
theorem wf_i64c {n : Int} (h : (Lit.int .i64 n).wf = true) : n ≤ 9223372036854775807 := by
  have h2 : IntKind.i64.min ≤ n ∧ n ≤ IntKind.i64.max := by simpa [Lit.wf] using h
  simp [IntKind.min, IntKind.max, IntKind.signed, IntKind.bits] at h2
  omega
/-- An act that light lets in. -/
theorem JActV.ok.actIn {w : World} {a : JActV} (h : a.ok w) (hs : a.small) : ∃ ys ls, ys.length = a.r.len ∧ ls.length = a.rs.length ∧ ActIn w.heap.size w a.r.A a.A2 ys ls a.n := by
  have h8 := hs.2.1.at 0 a.r rfl
  obtain ⟨ys, hy, hx⟩ := h.row.bytes (by omega)
  obtain ⟨ls, hl, hr, _, _⟩ := recs_lists h.recs hs.2.2
  exact ⟨ys, ls, hy, hl, wf_i64c h.n, by omega, hx, fun ad e h0 => rb_lt hx ad e h0, by rw [hl]; exact hs.1, hr⟩
set_option maxRecDepth 100000 in
set_option maxHeartbeats 8000000 in
theorem lawJ (room : Int) (A : Option Addr) (c : Nat) (xs : List JActV) (w : World) (h : JActsR w A xs) (hl : xs.length ≤ 9223372036854775807) :
    Calls Tryz.prog 3 #[.int .i64 room, .slice A xs.length c] w fun e w' => e = .returned (.bool true) ∧ Below w.heap.size w w' := by
  obtain ⟨B, hB⟩ : ∃ B, B = w.heap.size := ⟨_, rfl⟩
  obtain ⟨m, hm⟩ : ∃ m, m = xs.length := ⟨_, rfl⟩
  rw [← hB, ← hm]
  rw [← hm] at hl
  have H := Lib.hid h
  have HM := Lib.hid hm
  have HB := Lib.hid hB
  clear h hm hB
  go_enter Tryz.func3, Tryz.ntmps3
  go_wp2_with fail
  rw [HM.out]
  refine (lightJ_any A c xs w H.out (by rw [← HM.out]; exact hl)).mono ?_
  rintro e w1 ⟨b, rfl, hb, b1⟩
  rw [← HM.out]
  have HL := Lib.hid hb
  have HB1 : Hid (Below B w w1) := Lib.hid (by rw [HB.out]; exact b1)
  clear hb b1
  cases b with
  | false =>
    go_wp2_with fail
    refine (jlives_true _).mono ?_
    rintro e w2 ⟨rfl, hb⟩
    have HB2 := Lib.hid (HB1.out.trans (Below.up hb (by have := HB.out; have := HB1.out.size; omega)))
    clear hb
    go_wp2_with fail
    go_ret
    exact ⟨rfl, HB2.out⟩
  | true =>
    have HS := Lib.hid (HL.out rfl)
    clear HL
    obtain ⟨nn, hn1, hme⟩ := modq room 100000 (by decide) (by decide)
    have hme : wrap64 ((IntKind.u64.wrap room).tmod 100000) = (nn : Int) := hme
    go_wp2_with fail
    rw [hme]
    refine (new_ok (nn : Int) w1 (by omega) (by omega)).mono ?_
    rintro e w2 ⟨tb, rfl, h2, b2, t2⟩
    have HB2 := Lib.hid (HB1.out.trans (Below.up b2 (by have := HB.out; have := HB1.out.size; omega)))
    go_wp2_with fail
    refine (rnew_ok (nn : Int) w2 (by omega) (by omega)).mono ?_
    rintro e w3 ⟨rb, rfl, h3, b3, t3⟩
    have hp : Pair B w3 tb rb (TS.new (nn : Int)) (TS.new (nn : Int)) (fun k => k = tb) (fun k => k = rb) := by
      have hlt : tb < w2.heap.size := by obtain ⟨_, _, _, t⟩ := t2; exact t.flt tb rfl
      have hbb := HB.out
      have hs1 := HB1.out.size
      have hs2 := b2.size
      have hs3 := b3.size
      exact ⟨t2.below b3, t3, fun k h1 h2 => by omega, fun k h => by omega, fun k h => by omega, by omega⟩
    have hB3 : Below B w w3 := HB2.out.trans (Below.up b3 (by have := HB.out; have := HB2.out.size; omega))
    have hba : Below w3.heap.size w3 (w3.alloc (.cells #[.pointer (some ⟨tb, 0, none⟩), .pointer none, .pointer (some ⟨rb, 0, none⟩), .pointer none] 34)) := (Below.refl _ _).alloc (Nat.le_refl _) _
    have hbk := Blk.new w3 #[.pointer (some ⟨tb, 0, none⟩), .pointer none, .pointer (some ⟨rb, 0, none⟩), .pointer none] 34
    have htl := hp.flt tb rfl
    have hrl := hp.glt rb rfl
    have HP4 := Lib.hid (hp.below hba)
    have HB4 := Lib.hid (hB3.trans (Below.up hba hp.size))
    have hwell := new_well (room := (nn : Int)) (by omega) (by omega)
    have HWL := Lib.hid hwell
    have HBK := Lib.hid hbk
    have c0 : (w3.alloc (.cells #[.pointer (some ⟨tb, 0, none⟩), .pointer none, .pointer (some ⟨rb, 0, none⟩), .pointer none] 34)).cell? ⟨w3.heap.size, 0, none⟩ = some (.pointer (some ⟨tb, 0, none⟩)) := hbk.cell 0
    have hsz := hp.size
    clear hwell hbk hba hB3 hp h2 b2 t2 h3 b3 t3 HB1 HB2 hme
    go_wp2_with fail
    clear c0
    obtain ⟨bb, hbb⟩ : ∃ bb, bb = w3.heap.size := ⟨_, rfl⟩
    obtain ⟨w4, hw4⟩ : ∃ w4, w4 = w3.alloc (.cells #[.pointer (some ⟨tb, 0, none⟩), .pointer none, .pointer (some ⟨rb, 0, none⟩), .pointer none] 34) := ⟨_, rfl⟩
    rw [← hw4] at HP4 HB4 HBK ⊢
    rw [← hbb] at HBK hsz htl hrl ⊢
    refine (bopen_any B bb tb rb _ _ _ none none w4 HP4.out HBK.out (by omega) (by omega) (by omega) HWL.out).mono ?_
    rintro e w5 ⟨rfl, hb5, _, T, F, G, jo, hbt⟩
    have HT := Lib.hid hbt
    have HB5 := Lib.hid (HB4.out.trans hb5)
    clear hbt hb5 HP4 HB4 HBK hbb hw4 htl hrl HWL
    go_wp2_with fail
    go_loopw [35] (fun i wr => ∃ k : Nat, k ≤ m ∧ i = .int .i64 k ∧ Hid (Below B w wr) ∧ ∃ T F G jo, Hid (Bth B wr bb tb rb T F G jo)) (fun i _ => m - (intOf i).toNat)
    case atStart => exact ⟨0, Nat.zero_le _, rfl, HB5, _, _, _, _, HT⟩
    case round =>
      clear HB5 HT
      obtain ⟨k, hk, rfl, HBL, T, F, G, jo, HT⟩ := hrel
      by_cases hlt : k < m
      · obtain ⟨a, ha⟩ : ∃ a, xs[k]? = some a := ⟨_, List.getElem?_eq_getElem (by rw [← HM.out]; exact hlt)⟩
        obtain ⟨ys, ls, hyl, hll, hin⟩ := (H.out.ok k a ha).actIn (HS.out a (List.mem_of_getElem? ha))
        rw [← HB.out] at hin
        obtain ⟨⟨kind, n, keep, ⟨rA, rl, rc, rz⟩, A2, rs, c2⟩, rfl⟩ : ∃ a', a' = a := ⟨_, rfl⟩
        have HX : Hid (JActsR wr A xs) := Lib.hid (H.out.below (Below.up HBL.out (by have := HB.out; omega)))
        obtain ⟨b, off, rfl, hlb, hc⟩ := HX.out.cell k _ ha
        obtain ⟨L, hL⟩ : ∃ L, L = rs.length := ⟨_, rfl⟩
        simp only at hyl hll hin
        rw [← hL] at hll
        have hc0 : wr.cell? ⟨b, off + k * 5, none⟩ = some (.int .i64 kind) := hc 0 (by omega)
        have hc1 : wr.cell? ⟨b, off + k * 5 + 1, none⟩ = some (.slice rA rl rc) := hc 1 (by omega)
        have hc2 : wr.cell? ⟨b, off + k * 5 + 2, none⟩ = some (.slice A2 L c2) := by rw [hL]; exact hc 2 (by omega)
        have hc3 : wr.cell? ⟨b, off + k * 5 + 3, none⟩ = some (.int .i64 n) := hc 3 (by omega)
        have hc4 : wr.cell? ⟨b, off + k * 5 + 4, none⟩ = some (.int .i64 keep) := hc 4 (by omega)
        have l1 : (k : Int) < (m : Int) := by omega
        have HYL := Lib.hid hyl
        have HLL := Lib.hid hll
        obtain ⟨w6, hw6⟩ : ∃ w6, w6 = wr.alloc (.cells #[.int .i64 kind, .slice rA rl rc, .slice A2 L c2, .int .i64 n, .int .i64 keep] 38) := ⟨_, rfl⟩
        have hba : Below wr.heap.size wr w6 := by rw [hw6]; exact (Below.refl _ _).alloc (Nat.le_refl _) _
        have hbk : Blk w6 wr.heap.size #[.int .i64 kind, .slice rA rl rc, .slice A2 L c2, .int .i64 n, .int .i64 keep] 38 := by rw [hw6]; exact Blk.new wr _ _
        obtain ⟨lb, hlb'⟩ : ∃ lb, lb = wr.heap.size := ⟨_, rfl⟩
        have hszr := HT.out.pair.size
        rw [← hlb'] at hbk
        have HT6 := Lib.hid (HT.out.below hba)
        have HB6 := Lib.hid (HBL.out.trans (Below.up hba hszr))
        have HIN := Lib.hid (hin.below HB6.out)
        have HW6 := Lib.hid hw6
        have HLB := Lib.hid hlb'
        have g0 : w6.cell? ⟨lb, 0, none⟩ = some (.int .i64 kind) := hbk.cell 0
        have g1 : w6.cell? ⟨lb, 1, none⟩ = some (.slice rA rl rc) := hbk.cell 1
        have g2 : w6.cell? ⟨lb, 2, none⟩ = some (.slice A2 L c2) := hbk.cell 2
        have g3 : w6.cell? ⟨lb, 3, none⟩ = some (.int .i64 n) := hbk.cell 3
        have g4 : w6.cell? ⟨lb, 4, none⟩ = some (.int .i64 keep) := hbk.cell 4
        clear hc ha hL hyl hll hin hw6 hlb' hba hbk HBL HT HX
        go_wp2_with fail
        rw [← HW6.out, ← HLB.out]
        clear hc0 hc1 hc2 hc3 hc4 HW6 HLB
        refine wp_region_phased (fun W => W.cell? ⟨lb, 0, none⟩ = some (.int .i64 kind) ∧ W.cell? ⟨lb, 1, none⟩ = some (.slice rA rl rc) ∧ W.cell? ⟨lb, 2, none⟩ = some (.slice A2 L c2) ∧ W.cell? ⟨lb, 3, none⟩ = some (.int .i64 n) ∧ W.cell? ⟨lb, 4, none⟩ = some (.int .i64 keep)) 2 (by kernel_rfl) ⟨g0, g1, g2, g3, g4⟩ (fun hS => ?_)
        refine wpAnyP_pure (v := ?_) 0 (at_toArray rfl) (by kernel_rfl) (by kernel_rfl) (by kernel_rfl) (fun _ _ _ h => h) (Or.inl ⟨by rfl, fun W => ?_⟩) ?_
        rotate_left 1
        · (go_simp <;> (try go_bits) <;> with_reducible rfl)
        simp only [Act.put, List.setIfInBounds_toArray, List.set_cons_zero, List.set_cons_succ]
        refine wpAnyP_loadD (v := ?_) 1 (by kernel_rfl) (by kernel_rfl) (at_toArray rfl) (by kernel_rfl) (by kernel_rfl) (by kernel_rfl) (fun _ _ _ h => h) (by first | assumption | rfl) (Or.inl ⟨by rfl, fun W hS => ?_⟩) ?_
        rotate_left 1
        · (obtain ⟨_, _, _, _, _⟩ := hS; go_simp <;> (try go_bits) <;> with_reducible rfl)
        simp only [Act.put, List.setIfInBounds_toArray, List.set_cons_zero, List.set_cons_succ]
        refine wpAnyP_swapB (S' := fun W => W.cell? ⟨bb, 0, none⟩ = some (.pointer (some ⟨tb, 0, none⟩)) ∧ W.cell? ⟨bb, 2, none⟩ = some (.pointer (some ⟨rb, 0, none⟩))) (m' := 16) (by kernel_rfl) ?_
        refine wpAnyP_one 2 (at_toArray rfl) (by kernel_rfl) rfl (fun K hK => ?_)
        clear hS g0 g1 g2 g3 g4
        go_wp2_with fail
        have hdr := Below.up (Below.refl w6.heap.size w6).drew HT6.out.pair.size
        refine (bact_n B bb tb rb T F G jo kind n keep rA A2 rc c2 ys ls w6.drew rl L HYL.out HLL.out (HT6.out.below (Below.refl _ _).drew) (HIN.out.below hdr)).mono ?_
        rintro e w7 ⟨rfl, hb7, T7, F7, G7, jo7, ht7⟩
        have HT7 := Lib.hid ht7
        have HB7 := Lib.hid ((HB6.out.trans hdr).trans hb7)
        clear ht7 hb7 hdr HIN HT6 HB6
        go_wp2_with fail
        refine hK.out _ _ (fun _ _ => ⟨HT7.out.pb.c0, HT7.out.pb.c2⟩) ?_
        clear hK
        have hS : w7.cell? ⟨bb, 0, none⟩ = some (.pointer (some ⟨tb, 0, none⟩)) ∧ w7.cell? ⟨bb, 2, none⟩ = some (.pointer (some ⟨rb, 0, none⟩)) := ⟨HT7.out.pb.c0, HT7.out.pb.c2⟩
        refine wpAnyP_pure (v := ?_) 3 (at_toArray rfl) (by kernel_rfl) (by kernel_rfl) (by kernel_rfl) (fun _ _ _ h => h) (Or.inl ⟨by rfl, fun W => ?_⟩) ?_
        rotate_left 1
        · (go_simp <;> (try go_bits) <;> with_reducible rfl)
        simp only [Act.put, List.setIfInBounds_toArray, List.set_cons_zero, List.set_cons_succ]
        refine wpAnyP_pure (v := ?_) 4 (at_toArray rfl) (by kernel_rfl) (by kernel_rfl) (by kernel_rfl) (fun _ _ _ h => h) (Or.inl ⟨by rfl, fun W => ?_⟩) ?_
        rotate_left 1
        · (go_simp <;> (try go_bits) <;> with_reducible rfl)
        simp only [Act.put, List.setIfInBounds_toArray, List.set_cons_zero, List.set_cons_succ]
        refine wpAnyP_pure (v := ?_) 5 (at_toArray rfl) (by kernel_rfl) (by kernel_rfl) (by kernel_rfl) (fun _ _ _ h => h) (Or.inl ⟨by rfl, fun W => ?_⟩) ?_
        rotate_left 1
        · (go_simp <;> (try go_bits) <;> with_reducible rfl)
        simp only [Act.put, List.setIfInBounds_toArray, List.set_cons_zero, List.set_cons_succ]
        refine wpAnyP_pure (v := ?_) 6 (at_toArray rfl) (by kernel_rfl) (by kernel_rfl) (by kernel_rfl) (fun _ _ _ h => h) (Or.inl ⟨by rfl, fun W => ?_⟩) ?_
        rotate_left 1
        · (go_simp <;> (try go_bits) <;> with_reducible rfl)
        simp only [Act.put, List.setIfInBounds_toArray, List.set_cons_zero, List.set_cons_succ]
        refine wpAnyP_pure (v := ?_) 7 (at_toArray rfl) (by kernel_rfl) (by kernel_rfl) (by kernel_rfl) (fun _ _ _ h => h) (Or.inl ⟨by rfl, fun W => ?_⟩) ?_
        rotate_left 1
        · (go_simp <;> (try go_bits) <;> with_reducible rfl)
        simp only [Act.put, List.setIfInBounds_toArray, List.set_cons_zero, List.set_cons_succ]
        refine wpAnyP_load (v := ?_) 8 (by kernel_rfl) (at_toArray rfl) (by kernel_rfl) (by kernel_rfl) (by kernel_rfl) (fun _ _ _ h => h) (by first | assumption | rfl) (Or.inl ⟨by rfl, fun W hS => ?_⟩) ?_
        rotate_left 1
        · (obtain ⟨_, _⟩ := hS; go_simp <;> (try go_bits) <;> with_reducible rfl)
        simp only [Act.put, List.setIfInBounds_toArray, List.set_cons_zero, List.set_cons_succ]
        refine wpAnyP_pure (v := ?_) 9 (at_toArray rfl) (by kernel_rfl) (by kernel_rfl) (by kernel_rfl) (fun _ _ _ h => h) (Or.inl ⟨by rfl, fun W => ?_⟩) ?_
        rotate_left 1
        · (go_simp <;> (try go_bits) <;> with_reducible rfl)
        simp only [Act.put, List.setIfInBounds_toArray, List.set_cons_zero, List.set_cons_succ]
        refine wpAnyP_pure (v := ?_) 10 (at_toArray rfl) (by kernel_rfl) (by kernel_rfl) (by kernel_rfl) (fun _ _ _ h => h) (Or.inl ⟨by rfl, fun W => ?_⟩) ?_
        rotate_left 1
        · (go_simp <;> (try go_bits) <;> with_reducible rfl)
        simp only [Act.put, List.setIfInBounds_toArray, List.set_cons_zero, List.set_cons_succ]
        refine wpAnyP_pure (v := ?_) 11 (at_toArray rfl) (by kernel_rfl) (by kernel_rfl) (by kernel_rfl) (fun _ _ _ h => h) (Or.inl ⟨by rfl, fun W => ?_⟩) ?_
        rotate_left 1
        · (go_simp <;> (try go_bits) <;> with_reducible rfl)
        simp only [Act.put, List.setIfInBounds_toArray, List.set_cons_zero, List.set_cons_succ]
        refine wpAnyP_load (v := ?_) 12 (by kernel_rfl) (at_toArray rfl) (by kernel_rfl) (by kernel_rfl) (by kernel_rfl) (fun _ _ _ h => h) (by first | assumption | rfl) (Or.inl ⟨by rfl, fun W hS => ?_⟩) ?_
        rotate_left 1
        · (obtain ⟨_, _⟩ := hS; go_simp <;> (try go_bits) <;> with_reducible rfl)
        simp only [Act.put, List.setIfInBounds_toArray, List.set_cons_zero, List.set_cons_succ]
        refine wpAnyP_oneG 13 (at_toArray rfl) (by kernel_rfl) (by rfl) (fun K hK => ?_)
        go_wp2_with fail
        refine (same_any tb rb T7 F7 G7 w7 HT7.out.pair.tape HT7.out.pair.ref).mono ?_
        rintro e w8 ⟨rfl, hb8⟩
        have HT8 := Lib.hid (HT7.out.below hb8)
        have HB8 := Lib.hid (HB7.out.trans (Below.up hb8 HT7.out.pair.size))
        clear hb8 HT7 HB7 hS
        go_wp2_with fail
        refine hK.out _ _ (fun _ _ => ⟨HT8.out.pb.c0, HT8.out.pb.c2⟩) ?_
        clear hK
        refine wpAnyP_pure (v := ?_) 14 (at_toArray rfl) (by kernel_rfl) (by kernel_rfl) (by kernel_rfl) (fun _ _ _ h => h) (Or.inl ⟨by rfl, fun W => ?_⟩) ?_
        rotate_left 1
        · (go_simp <;> (try go_bits) <;> with_reducible rfl)
        simp only [Act.put, List.setIfInBounds_toArray, List.set_cons_zero, List.set_cons_succ]
        refine wpAnyP_pure (v := ?_) 15 (at_toArray rfl) (by kernel_rfl) (by kernel_rfl) (by kernel_rfl) (fun _ _ _ h => h) (Or.inl ⟨by rfl, fun W => ?_⟩) ?_
        rotate_left 1
        · (go_simp <;> (try go_bits) <;> with_reducible rfl)
        simp only [Act.put, List.setIfInBounds_toArray, List.set_cons_zero, List.set_cons_succ]
        refine wpAnyP_done (by kernel_rfl) ?_ _
        go_wp2_with fail
        match jo7, HT8 with
        | none, HT8 =>
          have q3 : w8.drew.cell? ⟨bb, 3, none⟩ = some (.pointer none) := HT8.out.pb.c3
          refine wp_region_phased (fun W => W.cell? ⟨bb, 3, none⟩ = some (.pointer none)) 70 (by kernel_rfl) q3 (fun hS => ?_)
          refine wpAnyP_pure (v := ?_) 0 (at_toArray rfl) (by kernel_rfl) (by kernel_rfl) (by kernel_rfl) (fun _ _ _ h => h) (Or.inl ⟨by rfl, fun W => ?_⟩) ?_
          rotate_left 1
          · (go_simp <;> (try go_bits) <;> with_reducible rfl)
          simp only [Act.put, List.setIfInBounds_toArray, List.set_cons_zero, List.set_cons_succ]
          refine wpAnyP_pure (v := ?_) 1 (at_toArray rfl) (by kernel_rfl) (by kernel_rfl) (by kernel_rfl) (fun _ _ _ h => h) (Or.inl ⟨by rfl, fun W => ?_⟩) ?_
          rotate_left 1
          · (go_simp <;> (try go_bits) <;> with_reducible rfl)
          simp only [Act.put, List.setIfInBounds_toArray, List.set_cons_zero, List.set_cons_succ]
          refine wpAnyP_pure (v := ?_) 2 (at_toArray rfl) (by kernel_rfl) (by kernel_rfl) (by kernel_rfl) (fun _ _ _ h => h) (Or.inl ⟨by rfl, fun W => ?_⟩) ?_
          rotate_left 1
          · (go_simp <;> (try go_bits) <;> with_reducible rfl)
          simp only [Act.put, List.setIfInBounds_toArray, List.set_cons_zero, List.set_cons_succ]
          refine wpAnyP_load (v := ?_) 3 (by kernel_rfl) (at_toArray rfl) (by kernel_rfl) (by kernel_rfl) (by kernel_rfl) (fun _ _ _ h => h) (by first | assumption | rfl) (Or.inl ⟨by rfl, fun W hS => ?_⟩) ?_
          rotate_left 1
          · (obtain _ := hS; go_simp <;> (try go_bits) <;> with_reducible rfl)
          simp only [Act.put, List.setIfInBounds_toArray, List.set_cons_zero, List.set_cons_succ]
          refine wpAnyP_pure (v := ?_) 4 (at_toArray rfl) (by kernel_rfl) (by kernel_rfl) (by kernel_rfl) (fun _ _ _ h => h) (Or.inl ⟨by rfl, fun W => ?_⟩) ?_
          rotate_left 1
          · (go_simp <;> (try go_bits) <;> with_reducible rfl)
          simp only [Act.put, List.setIfInBounds_toArray, List.set_cons_zero, List.set_cons_succ]
          refine wpAnyP_pure (v := ?_) 5 (at_toArray rfl) (by kernel_rfl) (by kernel_rfl) (by kernel_rfl) (fun _ _ _ h => h) (Or.inl ⟨by rfl, fun W => ?_⟩) ?_
          rotate_left 1
          · (go_simp <;> (try go_bits) <;> with_reducible rfl)
          simp only [Act.put, List.setIfInBounds_toArray, List.set_cons_zero, List.set_cons_succ]
          refine wpAnyP_pure 6 (at_toArray rfl) (by kernel_rfl) (by kernel_rfl) (by kernel_rfl) (fun _ _ _ h => h) (Or.inr ⟨by rfl, rfl⟩) ?_
          simp only [Act.put, List.setIfInBounds_toArray, List.set_cons_zero, List.set_cons_succ]
          refine wpAnyP_pure 7 (at_toArray rfl) (by kernel_rfl) (by kernel_rfl) (by kernel_rfl) (fun _ _ _ h => h) (Or.inr ⟨by rfl, rfl⟩) ?_
          simp only [Act.put, List.setIfInBounds_toArray, List.set_cons_zero, List.set_cons_succ]
          refine wpAnyP_pure 8 (at_toArray rfl) (by kernel_rfl) (by kernel_rfl) (by kernel_rfl) (fun _ _ _ h => h) (Or.inr ⟨by rfl, rfl⟩) ?_
          simp only [Act.put, List.setIfInBounds_toArray, List.set_cons_zero, List.set_cons_succ]
          refine wpAnyP_pure 9 (at_toArray rfl) (by kernel_rfl) (by kernel_rfl) (by kernel_rfl) (fun _ _ _ h => h) (Or.inr ⟨by rfl, rfl⟩) ?_
          simp only [Act.put, List.setIfInBounds_toArray, List.set_cons_zero, List.set_cons_succ]
          refine wpAnyP_pure 10 (at_toArray rfl) (by kernel_rfl) (by kernel_rfl) (by kernel_rfl) (fun _ _ _ h => h) (Or.inr ⟨by rfl, rfl⟩) ?_
          simp only [Act.put, List.setIfInBounds_toArray, List.set_cons_zero, List.set_cons_succ]
          refine wpAnyP_pure 11 (at_toArray rfl) (by kernel_rfl) (by kernel_rfl) (by kernel_rfl) (fun _ _ _ h => h) (Or.inr ⟨by rfl, rfl⟩) ?_
          simp only [Act.put, List.setIfInBounds_toArray, List.set_cons_zero, List.set_cons_succ]
          refine wpAnyP_pure 12 (at_toArray rfl) (by kernel_rfl) (by kernel_rfl) (by kernel_rfl) (fun _ _ _ h => h) (Or.inr ⟨by rfl, rfl⟩) ?_
          simp only [Act.put, List.setIfInBounds_toArray, List.set_cons_zero, List.set_cons_succ]
          refine wpAnyP_pure 13 (at_toArray rfl) (by kernel_rfl) (by kernel_rfl) (by kernel_rfl) (fun _ _ _ h => h) (Or.inr ⟨by rfl, rfl⟩) ?_
          simp only [Act.put, List.setIfInBounds_toArray, List.set_cons_zero, List.set_cons_succ]
          refine wpAnyP_pure 14 (at_toArray rfl) (by kernel_rfl) (by kernel_rfl) (by kernel_rfl) (fun _ _ _ h => h) (Or.inr ⟨by rfl, rfl⟩) ?_
          simp only [Act.put, List.setIfInBounds_toArray, List.set_cons_zero, List.set_cons_succ]
          refine wpAnyP_pure 15 (at_toArray rfl) (by kernel_rfl) (by kernel_rfl) (by kernel_rfl) (fun _ _ _ h => h) (Or.inr ⟨by rfl, rfl⟩) ?_
          simp only [Act.put, List.setIfInBounds_toArray, List.set_cons_zero, List.set_cons_succ]
          refine wpAnyP_pure 16 (at_toArray rfl) (by kernel_rfl) (by kernel_rfl) (by kernel_rfl) (fun _ _ _ h => h) (Or.inr ⟨by rfl, rfl⟩) ?_
          simp only [Act.put, List.setIfInBounds_toArray, List.set_cons_zero, List.set_cons_succ]
          refine wpAnyP_pure 17 (at_toArray rfl) (by kernel_rfl) (by kernel_rfl) (by kernel_rfl) (fun _ _ _ h => h) (Or.inr ⟨by rfl, rfl⟩) ?_
          simp only [Act.put, List.setIfInBounds_toArray, List.set_cons_zero, List.set_cons_succ]
          refine wpAnyP_pure 18 (at_toArray rfl) (by kernel_rfl) (by kernel_rfl) (by kernel_rfl) (fun _ _ _ h => h) (Or.inr ⟨by rfl, rfl⟩) ?_
          simp only [Act.put, List.setIfInBounds_toArray, List.set_cons_zero, List.set_cons_succ]
          refine wpAnyP_pure 19 (at_toArray rfl) (by kernel_rfl) (by kernel_rfl) (by kernel_rfl) (fun _ _ _ h => h) (Or.inr ⟨by rfl, rfl⟩) ?_
          simp only [Act.put, List.setIfInBounds_toArray, List.set_cons_zero, List.set_cons_succ]
          refine wpAnyP_pure 20 (at_toArray rfl) (by kernel_rfl) (by kernel_rfl) (by kernel_rfl) (fun _ _ _ h => h) (Or.inr ⟨by rfl, rfl⟩) ?_
          simp only [Act.put, List.setIfInBounds_toArray, List.set_cons_zero, List.set_cons_succ]
          refine wpAnyP_pure 21 (at_toArray rfl) (by kernel_rfl) (by kernel_rfl) (by kernel_rfl) (fun _ _ _ h => h) (Or.inr ⟨by rfl, rfl⟩) ?_
          simp only [Act.put, List.setIfInBounds_toArray, List.set_cons_zero, List.set_cons_succ]
          refine wpAnyP_pure 22 (at_toArray rfl) (by kernel_rfl) (by kernel_rfl) (by kernel_rfl) (fun _ _ _ h => h) (Or.inr ⟨by rfl, rfl⟩) ?_
          simp only [Act.put, List.setIfInBounds_toArray, List.set_cons_zero, List.set_cons_succ]
          refine wpAnyP_pure 23 (at_toArray rfl) (by kernel_rfl) (by kernel_rfl) (by kernel_rfl) (fun _ _ _ h => h) (Or.inr ⟨by rfl, rfl⟩) ?_
          simp only [Act.put, List.setIfInBounds_toArray, List.set_cons_zero, List.set_cons_succ]
          refine wpAnyP_pure 24 (at_toArray rfl) (by kernel_rfl) (by kernel_rfl) (by kernel_rfl) (fun _ _ _ h => h) (Or.inr ⟨by rfl, rfl⟩) ?_
          simp only [Act.put, List.setIfInBounds_toArray, List.set_cons_zero, List.set_cons_succ]
          refine wpAnyP_pure 25 (at_toArray rfl) (by kernel_rfl) (by kernel_rfl) (by kernel_rfl) (fun _ _ _ h => h) (Or.inr ⟨by rfl, rfl⟩) ?_
          simp only [Act.put, List.setIfInBounds_toArray, List.set_cons_zero, List.set_cons_succ]
          refine wpAnyP_pure 26 (at_toArray rfl) (by kernel_rfl) (by kernel_rfl) (by kernel_rfl) (fun _ _ _ h => h) (Or.inr ⟨by rfl, rfl⟩) ?_
          simp only [Act.put, List.setIfInBounds_toArray, List.set_cons_zero, List.set_cons_succ]
          refine wpAnyP_pure 27 (at_toArray rfl) (by kernel_rfl) (by kernel_rfl) (by kernel_rfl) (fun _ _ _ h => h) (Or.inr ⟨by rfl, rfl⟩) ?_
          simp only [Act.put, List.setIfInBounds_toArray, List.set_cons_zero, List.set_cons_succ]
          refine wpAnyP_pure 28 (at_toArray rfl) (by kernel_rfl) (by kernel_rfl) (by kernel_rfl) (fun _ _ _ h => h) (Or.inr ⟨by rfl, rfl⟩) ?_
          simp only [Act.put, List.setIfInBounds_toArray, List.set_cons_zero, List.set_cons_succ]
          refine wpAnyP_pure 29 (at_toArray rfl) (by kernel_rfl) (by kernel_rfl) (by kernel_rfl) (fun _ _ _ h => h) (Or.inr ⟨by rfl, rfl⟩) ?_
          simp only [Act.put, List.setIfInBounds_toArray, List.set_cons_zero, List.set_cons_succ]
          refine wpAnyP_pure 30 (at_toArray rfl) (by kernel_rfl) (by kernel_rfl) (by kernel_rfl) (fun _ _ _ h => h) (Or.inr ⟨by rfl, rfl⟩) ?_
          simp only [Act.put, List.setIfInBounds_toArray, List.set_cons_zero, List.set_cons_succ]
          refine wpAnyP_pure 31 (at_toArray rfl) (by kernel_rfl) (by kernel_rfl) (by kernel_rfl) (fun _ _ _ h => h) (Or.inr ⟨by rfl, rfl⟩) ?_
          simp only [Act.put, List.setIfInBounds_toArray, List.set_cons_zero, List.set_cons_succ]
          refine wpAnyP_pure 32 (at_toArray rfl) (by kernel_rfl) (by kernel_rfl) (by kernel_rfl) (fun _ _ _ h => h) (Or.inr ⟨by rfl, rfl⟩) ?_
          simp only [Act.put, List.setIfInBounds_toArray, List.set_cons_zero, List.set_cons_succ]
          refine wpAnyP_pure 33 (at_toArray rfl) (by kernel_rfl) (by kernel_rfl) (by kernel_rfl) (fun _ _ _ h => h) (Or.inr ⟨by rfl, rfl⟩) ?_
          simp only [Act.put, List.setIfInBounds_toArray, List.set_cons_zero, List.set_cons_succ]
          refine wpAnyP_pure 34 (at_toArray rfl) (by kernel_rfl) (by kernel_rfl) (by kernel_rfl) (fun _ _ _ h => h) (Or.inr ⟨by rfl, rfl⟩) ?_
          simp only [Act.put, List.setIfInBounds_toArray, List.set_cons_zero, List.set_cons_succ]
          refine wpAnyP_pure 35 (at_toArray rfl) (by kernel_rfl) (by kernel_rfl) (by kernel_rfl) (fun _ _ _ h => h) (Or.inr ⟨by rfl, rfl⟩) ?_
          simp only [Act.put, List.setIfInBounds_toArray, List.set_cons_zero, List.set_cons_succ]
          refine wpAnyP_pure 36 (at_toArray rfl) (by kernel_rfl) (by kernel_rfl) (by kernel_rfl) (fun _ _ _ h => h) (Or.inr ⟨by rfl, rfl⟩) ?_
          simp only [Act.put, List.setIfInBounds_toArray, List.set_cons_zero, List.set_cons_succ]
          refine wpAnyP_pure 37 (at_toArray rfl) (by kernel_rfl) (by kernel_rfl) (by kernel_rfl) (fun _ _ _ h => h) (Or.inr ⟨by rfl, rfl⟩) ?_
          simp only [Act.put, List.setIfInBounds_toArray, List.set_cons_zero, List.set_cons_succ]
          refine wpAnyP_pure 38 (at_toArray rfl) (by kernel_rfl) (by kernel_rfl) (by kernel_rfl) (fun _ _ _ h => h) (Or.inr ⟨by rfl, rfl⟩) ?_
          simp only [Act.put, List.setIfInBounds_toArray, List.set_cons_zero, List.set_cons_succ]
          refine wpAnyP_pure 39 (at_toArray rfl) (by kernel_rfl) (by kernel_rfl) (by kernel_rfl) (fun _ _ _ h => h) (Or.inr ⟨by rfl, rfl⟩) ?_
          simp only [Act.put, List.setIfInBounds_toArray, List.set_cons_zero, List.set_cons_succ]
          refine wpAnyP_pure 40 (at_toArray rfl) (by kernel_rfl) (by kernel_rfl) (by kernel_rfl) (fun _ _ _ h => h) (Or.inr ⟨by rfl, rfl⟩) ?_
          simp only [Act.put, List.setIfInBounds_toArray, List.set_cons_zero, List.set_cons_succ]
          refine wpAnyP_pure 41 (at_toArray rfl) (by kernel_rfl) (by kernel_rfl) (by kernel_rfl) (fun _ _ _ h => h) (Or.inr ⟨by rfl, rfl⟩) ?_
          simp only [Act.put, List.setIfInBounds_toArray, List.set_cons_zero, List.set_cons_succ]
          refine wpAnyP_pure 42 (at_toArray rfl) (by kernel_rfl) (by kernel_rfl) (by kernel_rfl) (fun _ _ _ h => h) (Or.inr ⟨by rfl, rfl⟩) ?_
          simp only [Act.put, List.setIfInBounds_toArray, List.set_cons_zero, List.set_cons_succ]
          refine wpAnyP_pure 43 (at_toArray rfl) (by kernel_rfl) (by kernel_rfl) (by kernel_rfl) (fun _ _ _ h => h) (Or.inr ⟨by rfl, rfl⟩) ?_
          simp only [Act.put, List.setIfInBounds_toArray, List.set_cons_zero, List.set_cons_succ]
          refine wpAnyP_pure 44 (at_toArray rfl) (by kernel_rfl) (by kernel_rfl) (by kernel_rfl) (fun _ _ _ h => h) (Or.inr ⟨by rfl, rfl⟩) ?_
          simp only [Act.put, List.setIfInBounds_toArray, List.set_cons_zero, List.set_cons_succ]
          refine wpAnyP_pure 45 (at_toArray rfl) (by kernel_rfl) (by kernel_rfl) (by kernel_rfl) (fun _ _ _ h => h) (Or.inr ⟨by rfl, rfl⟩) ?_
          simp only [Act.put, List.setIfInBounds_toArray, List.set_cons_zero, List.set_cons_succ]
          refine wpAnyP_pure 46 (at_toArray rfl) (by kernel_rfl) (by kernel_rfl) (by kernel_rfl) (fun _ _ _ h => h) (Or.inr ⟨by rfl, rfl⟩) ?_
          simp only [Act.put, List.setIfInBounds_toArray, List.set_cons_zero, List.set_cons_succ]
          refine wpAnyP_pure 47 (at_toArray rfl) (by kernel_rfl) (by kernel_rfl) (by kernel_rfl) (fun _ _ _ h => h) (Or.inr ⟨by rfl, rfl⟩) ?_
          simp only [Act.put, List.setIfInBounds_toArray, List.set_cons_zero, List.set_cons_succ]
          refine wpAnyP_pure 48 (at_toArray rfl) (by kernel_rfl) (by kernel_rfl) (by kernel_rfl) (fun _ _ _ h => h) (Or.inr ⟨by rfl, rfl⟩) ?_
          simp only [Act.put, List.setIfInBounds_toArray, List.set_cons_zero, List.set_cons_succ]
          refine wpAnyP_pure 49 (at_toArray rfl) (by kernel_rfl) (by kernel_rfl) (by kernel_rfl) (fun _ _ _ h => h) (Or.inr ⟨by rfl, rfl⟩) ?_
          simp only [Act.put, List.setIfInBounds_toArray, List.set_cons_zero, List.set_cons_succ]
          refine wpAnyP_pure 50 (at_toArray rfl) (by kernel_rfl) (by kernel_rfl) (by kernel_rfl) (fun _ _ _ h => h) (Or.inr ⟨by rfl, rfl⟩) ?_
          simp only [Act.put, List.setIfInBounds_toArray, List.set_cons_zero, List.set_cons_succ]
          refine wpAnyP_pure 51 (at_toArray rfl) (by kernel_rfl) (by kernel_rfl) (by kernel_rfl) (fun _ _ _ h => h) (Or.inr ⟨by rfl, rfl⟩) ?_
          simp only [Act.put, List.setIfInBounds_toArray, List.set_cons_zero, List.set_cons_succ]
          refine wpAnyP_pure 52 (at_toArray rfl) (by kernel_rfl) (by kernel_rfl) (by kernel_rfl) (fun _ _ _ h => h) (Or.inr ⟨by rfl, rfl⟩) ?_
          simp only [Act.put, List.setIfInBounds_toArray, List.set_cons_zero, List.set_cons_succ]
          refine wpAnyP_pure 53 (at_toArray rfl) (by kernel_rfl) (by kernel_rfl) (by kernel_rfl) (fun _ _ _ h => h) (Or.inr ⟨by rfl, rfl⟩) ?_
          simp only [Act.put, List.setIfInBounds_toArray, List.set_cons_zero, List.set_cons_succ]
          refine wpAnyP_pure 54 (at_toArray rfl) (by kernel_rfl) (by kernel_rfl) (by kernel_rfl) (fun _ _ _ h => h) (Or.inr ⟨by rfl, rfl⟩) ?_
          simp only [Act.put, List.setIfInBounds_toArray, List.set_cons_zero, List.set_cons_succ]
          refine wpAnyP_pure 55 (at_toArray rfl) (by kernel_rfl) (by kernel_rfl) (by kernel_rfl) (fun _ _ _ h => h) (Or.inr ⟨by rfl, rfl⟩) ?_
          simp only [Act.put, List.setIfInBounds_toArray, List.set_cons_zero, List.set_cons_succ]
          refine wpAnyP_pure 56 (at_toArray rfl) (by kernel_rfl) (by kernel_rfl) (by kernel_rfl) (fun _ _ _ h => h) (Or.inr ⟨by rfl, rfl⟩) ?_
          simp only [Act.put, List.setIfInBounds_toArray, List.set_cons_zero, List.set_cons_succ]
          refine wpAnyP_pure 57 (at_toArray rfl) (by kernel_rfl) (by kernel_rfl) (by kernel_rfl) (fun _ _ _ h => h) (Or.inr ⟨by rfl, rfl⟩) ?_
          simp only [Act.put, List.setIfInBounds_toArray, List.set_cons_zero, List.set_cons_succ]
          refine wpAnyP_pure 58 (at_toArray rfl) (by kernel_rfl) (by kernel_rfl) (by kernel_rfl) (fun _ _ _ h => h) (Or.inr ⟨by rfl, rfl⟩) ?_
          simp only [Act.put, List.setIfInBounds_toArray, List.set_cons_zero, List.set_cons_succ]
          refine wpAnyP_pure 59 (at_toArray rfl) (by kernel_rfl) (by kernel_rfl) (by kernel_rfl) (fun _ _ _ h => h) (Or.inr ⟨by rfl, rfl⟩) ?_
          simp only [Act.put, List.setIfInBounds_toArray, List.set_cons_zero, List.set_cons_succ]
          refine wpAnyP_pure 60 (at_toArray rfl) (by kernel_rfl) (by kernel_rfl) (by kernel_rfl) (fun _ _ _ h => h) (Or.inr ⟨by rfl, rfl⟩) ?_
          simp only [Act.put, List.setIfInBounds_toArray, List.set_cons_zero, List.set_cons_succ]
          refine wpAnyP_pure 61 (at_toArray rfl) (by kernel_rfl) (by kernel_rfl) (by kernel_rfl) (fun _ _ _ h => h) (Or.inr ⟨by rfl, rfl⟩) ?_
          simp only [Act.put, List.setIfInBounds_toArray, List.set_cons_zero, List.set_cons_succ]
          refine wpAnyP_pure 62 (at_toArray rfl) (by kernel_rfl) (by kernel_rfl) (by kernel_rfl) (fun _ _ _ h => h) (Or.inr ⟨by rfl, rfl⟩) ?_
          simp only [Act.put, List.setIfInBounds_toArray, List.set_cons_zero, List.set_cons_succ]
          refine wpAnyP_pure 63 (at_toArray rfl) (by kernel_rfl) (by kernel_rfl) (by kernel_rfl) (fun _ _ _ h => h) (Or.inr ⟨by rfl, rfl⟩) ?_
          simp only [Act.put, List.setIfInBounds_toArray, List.set_cons_zero, List.set_cons_succ]
          refine wpAnyP_pure 64 (at_toArray rfl) (by kernel_rfl) (by kernel_rfl) (by kernel_rfl) (fun _ _ _ h => h) (Or.inr ⟨by rfl, rfl⟩) ?_
          simp only [Act.put, List.setIfInBounds_toArray, List.set_cons_zero, List.set_cons_succ]
          refine wpAnyP_pure 65 (at_toArray rfl) (by kernel_rfl) (by kernel_rfl) (by kernel_rfl) (fun _ _ _ h => h) (Or.inr ⟨by rfl, rfl⟩) ?_
          simp only [Act.put, List.setIfInBounds_toArray, List.set_cons_zero, List.set_cons_succ]
          refine wpAnyP_pure 66 (at_toArray rfl) (by kernel_rfl) (by kernel_rfl) (by kernel_rfl) (fun _ _ _ h => h) (Or.inr ⟨by rfl, rfl⟩) ?_
          simp only [Act.put, List.setIfInBounds_toArray, List.set_cons_zero, List.set_cons_succ]
          refine wpAnyP_pure 67 (at_toArray rfl) (by kernel_rfl) (by kernel_rfl) (by kernel_rfl) (fun _ _ _ h => h) (Or.inr ⟨by rfl, rfl⟩) ?_
          simp only [Act.put, List.setIfInBounds_toArray, List.set_cons_zero, List.set_cons_succ]
          refine wpAnyP_pure 68 (at_toArray rfl) (by kernel_rfl) (by kernel_rfl) (by kernel_rfl) (fun _ _ _ h => h) (Or.inr ⟨by rfl, rfl⟩) ?_
          simp only [Act.put, List.setIfInBounds_toArray, List.set_cons_zero, List.set_cons_succ]
          refine wpAnyP_pure (v := ?_) 69 (at_toArray rfl) (by kernel_rfl) (by kernel_rfl) (by kernel_rfl) (fun _ _ _ h => h) (Or.inl ⟨by rfl, fun W => ?_⟩) ?_
          rotate_left 1
          · (go_simp <;> (try go_bits) <;> with_reducible rfl)
          simp only [Act.put, List.setIfInBounds_toArray, List.set_cons_zero, List.set_cons_succ]
          refine wpAnyP_done (by kernel_rfl) ?_ _
          have HT9 := Lib.hid (HT8.out.below (Below.refl _ _).drew)
          have HB9 := Lib.hid (HB8.out.trans (Below.up (Below.refl _ _).drew HT8.out.pair.size))
          clear HT8 HB8 q3 hS
          go_wp2_with fail
          go_roundw
          case rel => exact ⟨k + 1, by omega, by go_num, HB9, T7, F7, G7, none, HT9⟩
          case measure => simp [intOf]; omega
        | some (jb, rj, J), HT8 =>
          have HJT := Lib.hid (HT8.out.js jb rj J rfl).jt
          have hlen := HJT.out.len HT8.out.well
          have HT9 := Lib.hid (HT8.out.below (Below.refl _ _).drew)
          have HB9 := Lib.hid (HB8.out.trans (Below.up (Below.refl _ _).drew HT8.out.pair.size))
          obtain ⟨tn, htn⟩ : ∃ tn, tn = J.turn := ⟨_, rfl⟩
          obtain ⟨bo, hbo⟩ : ∃ bo, bo = (J.fault T7 == 0) := ⟨_, rfl⟩
          obtain ⟨bs, hbs⟩ : ∃ bs, bs = (T7.sure J.area == ((T7.b J.area).length : Int)) := ⟨_, rfl⟩
          have q1 : w8.drew.cell? ⟨bb, 1, none⟩ = some (.pointer (some ⟨jb, 0, none⟩)) := HT9.out.pb.c1
          have q2 : w8.drew.cell? ⟨bb, 2, none⟩ = some (.pointer (some ⟨rb, 0, none⟩)) := HT9.out.pb.c2
          have q3 : w8.drew.cell? ⟨bb, 3, none⟩ = some (.pointer (some ⟨rj, 0, none⟩)) := HT9.out.pb.c3
          have r1 : w8.drew.cell? ⟨rj, 1, none⟩ = some (.int .i64 J.area) := HT9.out.js2.ref.cell 1
          have r2 : w8.drew.cell? ⟨rj, 2, none⟩ = some (.int .i64 tn) := by rw [htn]; exact HT9.out.js2.ref.cell 2
          have e2 : (tn != tn) = false := by simp
          have e3 : (bs != bs) = false := by simp
          have e4 : (bo != bo) = false := by simp
          have har := HJT.out.ok.area
          clear HT8 HB8
          rcases har with ha | ha
          · obtain ⟨Ax, dx, n, hn, r6⟩ : ∃ Ax dx n, n = (T7.b0).length ∧ w8.drew.cell? ⟨rb, 1, none⟩ = some (.slice Ax n dx) := by
              obtain ⟨l, k, u0, u1, t⟩ := HT9.out.pair.ref
              have ll := t.len0
              obtain ⟨Ax, dx, hu, _⟩ := t.o0.reads' (by omega)
              exact ⟨Ax, dx, _, rfl, by rw [← hu]; exact t.blk.cell 1⟩
            have hn' : ((T7.b J.area).length : Int) = (n : Int) := by rw [hn, ha]; rfl
            have HCB : Hid (∀ W, Bth B W bb tb rb T7 F7 G7 (some (jb, rj, J)) → Calls Tryz.prog 11 #[.pointer (some ⟨jb, 0, none⟩)] W fun e w' => e = .returned (.int .i64 (n : Int)) ∧ Below W.heap.size W w') := Lib.hid fun W h => by
              have := jbytes_any (h.js2.jrr h.pb)
              rwa [hlen, hn'] at this
            have HCT : Hid (∀ W, Bth B W bb tb rb T7 F7 G7 (some (jb, rj, J)) → Calls Tryz.prog 12 #[.pointer (some ⟨jb, 0, none⟩)] W fun e w' => e = .returned (.int .i64 tn) ∧ Below W.heap.size W w') := Lib.hid fun W h => by
              have := turn_any (h.js2.jrr h.pb)
              rwa [← htn] at this
            have HCS : Hid (∀ W, Bth B W bb tb rb T7 F7 G7 (some (jb, rj, J)) → Calls Tryz.prog 13 #[.pointer (some ⟨jb, 0, none⟩)] W fun e w' => e = .returned (.bool bs) ∧ Below W.heap.size W w') := Lib.hid fun W h => by
              have := jsure_any (h.js2.jrr h.pb)
              rwa [hlen, ← hbs] at this
            have HRS : Hid (∀ W, Bth B W bb tb rb T7 F7 G7 (some (jb, rj, J)) → Calls Tryz.prog 14 #[.pointer (some ⟨rj, 0, none⟩)] W fun e w' => e = .returned (.bool bs) ∧ Below W.heap.size W w') := Lib.hid fun W h => by
              have := rjsure_any (h.js2.rjr h.pb) (by rw [ha]; simp)
              rwa [← hbs] at this
            have HCO : Hid (∀ W, Bth B W bb tb rb T7 F7 G7 (some (jb, rj, J)) → Calls Tryz.prog 15 #[.pointer (some ⟨jb, 0, none⟩)] W fun e w' => e = .returned (.bool bo) ∧ Below W.heap.size W w') := Lib.hid fun W h => by
              have := jon_any (h.js2.jrr h.pb)
              rwa [← hbo] at this
            have HRO : Hid (∀ W, Bth B W bb tb rb T7 F7 G7 (some (jb, rj, J)) → Calls Tryz.prog 16 #[.pointer (some ⟨rj, 0, none⟩)] W fun e w' => e = .returned (.bool bo) ∧ Below W.heap.size W w') := Lib.hid fun W h => by
              have := ron_any (h.js2.rjr h.pb)
              rwa [← hbo] at this
            rw [ha] at r1
            have e1 : ((n : Int) != (n : Int)) = false := by simp
            clear hn hn' hlen htn hbo hbs HJT
            refine wp_region_phased (fun W => W.cell? ⟨bb, 1, none⟩ = some (.pointer (some ⟨jb, 0, none⟩)) ∧ W.cell? ⟨bb, 2, none⟩ = some (.pointer (some ⟨rb, 0, none⟩)) ∧ W.cell? ⟨bb, 3, none⟩ = some (.pointer (some ⟨rj, 0, none⟩)) ∧ W.cell? ⟨rj, 1, none⟩ = some (.int .i64 0) ∧ W.cell? ⟨rj, 2, none⟩ = some (.int .i64 tn) ∧ W.cell? ⟨rb, 1, none⟩ = some (.slice Ax n dx)) 70 (by kernel_rfl) ⟨q1, q2, q3, r1, r2, r6⟩ (fun hS => ?_)
            clear q1 q2 q3 r1 r2 r6
            refine wpAnyP_pure (v := ?_) 0 (at_toArray rfl) (by kernel_rfl) (by kernel_rfl) (by kernel_rfl) (fun _ _ _ h => h) (Or.inl ⟨by rfl, fun W => ?_⟩) ?_
            rotate_left 1
            · (go_simp <;> (try go_bits) <;> with_reducible rfl)
            simp only [Act.put, List.setIfInBounds_toArray, List.set_cons_zero, List.set_cons_succ]
            refine wpAnyP_pure (v := ?_) 1 (at_toArray rfl) (by kernel_rfl) (by kernel_rfl) (by kernel_rfl) (fun _ _ _ h => h) (Or.inl ⟨by rfl, fun W => ?_⟩) ?_
            rotate_left 1
            · (go_simp <;> (try go_bits) <;> with_reducible rfl)
            simp only [Act.put, List.setIfInBounds_toArray, List.set_cons_zero, List.set_cons_succ]
            refine wpAnyP_pure (v := ?_) 2 (at_toArray rfl) (by kernel_rfl) (by kernel_rfl) (by kernel_rfl) (fun _ _ _ h => h) (Or.inl ⟨by rfl, fun W => ?_⟩) ?_
            rotate_left 1
            · (go_simp <;> (try go_bits) <;> with_reducible rfl)
            simp only [Act.put, List.setIfInBounds_toArray, List.set_cons_zero, List.set_cons_succ]
            refine wpAnyP_load (v := ?_) 3 (by kernel_rfl) (at_toArray rfl) (by kernel_rfl) (by kernel_rfl) (by kernel_rfl) (fun _ _ _ h => h) (by first | assumption | rfl) (Or.inl ⟨by rfl, fun W hS => ?_⟩) ?_
            rotate_left 1
            · (obtain ⟨_, _, _, _, _, _⟩ := hS; go_simp <;> (try go_bits) <;> with_reducible rfl)
            simp only [Act.put, List.setIfInBounds_toArray, List.set_cons_zero, List.set_cons_succ]
            refine wpAnyP_pure (v := ?_) 4 (at_toArray rfl) (by kernel_rfl) (by kernel_rfl) (by kernel_rfl) (fun _ _ _ h => h) (Or.inl ⟨by rfl, fun W => ?_⟩) ?_
            rotate_left 1
            · (go_simp <;> (try go_bits) <;> with_reducible rfl)
            simp only [Act.put, List.setIfInBounds_toArray, List.set_cons_zero, List.set_cons_succ]
            refine wpAnyP_pure (v := ?_) 5 (at_toArray rfl) (by kernel_rfl) (by kernel_rfl) (by kernel_rfl) (fun _ _ _ h => h) (Or.inl ⟨by rfl, fun W => ?_⟩) ?_
            rotate_left 1
            · (go_simp <;> (try go_bits) <;> with_reducible rfl)
            simp only [Act.put, List.setIfInBounds_toArray, List.set_cons_zero, List.set_cons_succ]
            refine wpAnyP_pure (v := ?_) 6 (at_toArray rfl) (by kernel_rfl) (by kernel_rfl) (by kernel_rfl) (fun _ _ _ h => h) (Or.inl ⟨by rfl, fun W => ?_⟩) ?_
            rotate_left 1
            · (go_simp <;> (try go_bits) <;> with_reducible rfl)
            simp only [Act.put, List.setIfInBounds_toArray, List.set_cons_zero, List.set_cons_succ]
            refine wpAnyP_pure (v := ?_) 7 (at_toArray rfl) (by kernel_rfl) (by kernel_rfl) (by kernel_rfl) (fun _ _ _ h => h) (Or.inl ⟨by rfl, fun W => ?_⟩) ?_
            rotate_left 1
            · (go_simp <;> (try go_bits) <;> with_reducible rfl)
            simp only [Act.put, List.setIfInBounds_toArray, List.set_cons_zero, List.set_cons_succ]
            refine wpAnyP_pure (v := ?_) 8 (at_toArray rfl) (by kernel_rfl) (by kernel_rfl) (by kernel_rfl) (fun _ _ _ h => h) (Or.inl ⟨by rfl, fun W => ?_⟩) ?_
            rotate_left 1
            · (go_simp <;> (try go_bits) <;> with_reducible rfl)
            simp only [Act.put, List.setIfInBounds_toArray, List.set_cons_zero, List.set_cons_succ]
            refine wpAnyP_load (v := ?_) 9 (by kernel_rfl) (at_toArray rfl) (by kernel_rfl) (by kernel_rfl) (by kernel_rfl) (fun _ _ _ h => h) (by first | assumption | rfl) (Or.inl ⟨by rfl, fun W hS => ?_⟩) ?_
            rotate_left 1
            · (obtain ⟨_, _, _, _, _, _⟩ := hS; go_simp <;> (try go_bits) <;> with_reducible rfl)
            simp only [Act.put, List.setIfInBounds_toArray, List.set_cons_zero, List.set_cons_succ]
            refine wpAnyP_pure (v := ?_) 11 (at_toArray rfl) (by kernel_rfl) (by kernel_rfl) (by kernel_rfl) (fun _ _ _ h => h) (Or.inl ⟨by rfl, fun W => ?_⟩) ?_
            rotate_left 1
            · (go_simp <;> (try go_bits) <;> with_reducible rfl)
            simp only [Act.put, List.setIfInBounds_toArray, List.set_cons_zero, List.set_cons_succ]
            refine wpAnyP_pure (v := ?_) 12 (at_toArray rfl) (by kernel_rfl) (by kernel_rfl) (by kernel_rfl) (fun _ _ _ h => h) (Or.inl ⟨by rfl, fun W => ?_⟩) ?_
            rotate_left 1
            · (go_simp <;> (try go_bits) <;> with_reducible rfl)
            simp only [Act.put, List.setIfInBounds_toArray, List.set_cons_zero, List.set_cons_succ]
            refine wpAnyP_pure (v := ?_) 13 (at_toArray rfl) (by kernel_rfl) (by kernel_rfl) (by kernel_rfl) (fun _ _ _ h => h) (Or.inl ⟨by rfl, fun W => ?_⟩) ?_
            rotate_left 1
            · (go_simp <;> (try go_bits) <;> with_reducible rfl)
            simp only [Act.put, List.setIfInBounds_toArray, List.set_cons_zero, List.set_cons_succ]
            refine wpAnyP_load (v := ?_) 14 (by kernel_rfl) (at_toArray rfl) (by kernel_rfl) (by kernel_rfl) (by kernel_rfl) (fun _ _ _ h => h) (by first | assumption | rfl) (Or.inl ⟨by rfl, fun W hS => ?_⟩) ?_
            rotate_left 1
            · (obtain ⟨_, _, _, _, _, _⟩ := hS; go_simp <;> (try go_bits) <;> with_reducible rfl)
            simp only [Act.put, List.setIfInBounds_toArray, List.set_cons_zero, List.set_cons_succ]
            refine wpAnyP_pure (v := ?_) 15 (at_toArray rfl) (by kernel_rfl) (by kernel_rfl) (by kernel_rfl) (fun _ _ _ h => h) (Or.inl ⟨by rfl, fun W => ?_⟩) ?_
            rotate_left 1
            · (go_simp <;> (try go_bits) <;> with_reducible rfl)
            simp only [Act.put, List.setIfInBounds_toArray, List.set_cons_zero, List.set_cons_succ]
            refine wpAnyP_pure (v := ?_) 16 (at_toArray rfl) (by kernel_rfl) (by kernel_rfl) (by kernel_rfl) (fun _ _ _ h => h) (Or.inl ⟨by rfl, fun W => ?_⟩) ?_
            rotate_left 1
            · (go_simp <;> (try go_bits) <;> with_reducible rfl)
            simp only [Act.put, List.setIfInBounds_toArray, List.set_cons_zero, List.set_cons_succ]
            refine wpAnyP_pure (v := ?_) 17 (at_toArray rfl) (by kernel_rfl) (by kernel_rfl) (by kernel_rfl) (fun _ _ _ h => h) (Or.inl ⟨by rfl, fun W => ?_⟩) ?_
            rotate_left 1
            · (go_simp <;> (try go_bits) <;> with_reducible rfl)
            simp only [Act.put, List.setIfInBounds_toArray, List.set_cons_zero, List.set_cons_succ]
            refine wpAnyP_load (v := ?_) 18 (by kernel_rfl) (at_toArray rfl) (by kernel_rfl) (by kernel_rfl) (by kernel_rfl) (fun _ _ _ h => h) (by first | assumption | rfl) (Or.inl ⟨by rfl, fun W hS => ?_⟩) ?_
            rotate_left 1
            · (obtain ⟨_, _, _, _, _, _⟩ := hS; go_simp <;> (try go_bits) <;> with_reducible rfl)
            simp only [Act.put, List.setIfInBounds_toArray, List.set_cons_zero, List.set_cons_succ]
            refine wpAnyP_pure (v := ?_) 19 (at_toArray rfl) (by kernel_rfl) (by kernel_rfl) (by kernel_rfl) (fun _ _ _ h => h) (Or.inl ⟨by rfl, fun W => ?_⟩) ?_
            rotate_left 1
            · (go_simp <;> (try go_bits) <;> with_reducible rfl)
            simp only [Act.put, List.setIfInBounds_toArray, List.set_cons_zero, List.set_cons_succ]
            refine wpAnyP_pure (v := ?_) 20 (at_toArray rfl) (by kernel_rfl) (by kernel_rfl) (by kernel_rfl) (fun _ _ _ h => h) (Or.inl ⟨by rfl, fun W => ?_⟩) ?_
            rotate_left 1
            · (go_simp <;> (try go_bits) <;> with_reducible rfl)
            simp only [Act.put, List.setIfInBounds_toArray, List.set_cons_zero, List.set_cons_succ]
            refine wpAnyP_load (v := ?_) 21 (by kernel_rfl) (at_toArray rfl) (by kernel_rfl) (by kernel_rfl) (by kernel_rfl) (fun _ _ _ h => h) (by first | assumption | rfl) (Or.inl ⟨by rfl, fun W hS => ?_⟩) ?_
            rotate_left 1
            · (obtain ⟨_, _, _, _, _, _⟩ := hS; go_simp <;> (try go_bits) <;> with_reducible rfl)
            simp only [Act.put, List.setIfInBounds_toArray, List.set_cons_zero, List.set_cons_succ]
            refine wpAnyP_pure (v := ?_) 22 (at_toArray rfl) (by kernel_rfl) (by kernel_rfl) (by kernel_rfl) (fun _ _ _ h => h) (Or.inl ⟨by rfl, fun W => ?_⟩) ?_
            rotate_left 1
            · (go_simp <;> (try go_bits) <;> with_reducible rfl)
            simp only [Act.put, List.setIfInBounds_toArray, List.set_cons_zero, List.set_cons_succ]
            refine wpAnyP_pure (v := ?_) 23 (at_toArray rfl) (by kernel_rfl) (by kernel_rfl) (by kernel_rfl) (fun _ _ _ h => h) (Or.inl ⟨by rfl, fun W => ?_⟩) ?_
            rotate_left 1
            · (go_simp <;> (try go_bits) <;> with_reducible rfl)
            simp only [Act.put, List.setIfInBounds_toArray, List.set_cons_zero, List.set_cons_succ]
            refine wpAnyP_pure (v := ?_) 24 (at_toArray rfl) (by kernel_rfl) (by kernel_rfl) (by kernel_rfl) (fun _ _ _ h => h) (Or.inl ⟨by rfl, fun W => ?_⟩) ?_
            rotate_left 1
            · (go_simp <;> (try go_bits) <;> with_reducible rfl)
            simp only [Act.put, List.setIfInBounds_toArray, List.set_cons_zero, List.set_cons_succ]
            refine wpAnyP_load (v := ?_) 25 (by kernel_rfl) (at_toArray rfl) (by kernel_rfl) (by kernel_rfl) (by kernel_rfl) (fun _ _ _ h => h) (by first | assumption | rfl) (Or.inl ⟨by rfl, fun W hS => ?_⟩) ?_
            rotate_left 1
            · (obtain ⟨_, _, _, _, _, _⟩ := hS; go_simp <;> (try go_bits) <;> with_reducible rfl)
            simp only [Act.put, List.setIfInBounds_toArray, List.set_cons_zero, List.set_cons_succ]
            refine wpAnyP_pure (v := ?_) 26 (at_toArray rfl) (by kernel_rfl) (by kernel_rfl) (by kernel_rfl) (fun _ _ _ h => h) (Or.inl ⟨by rfl, fun W => ?_⟩) ?_
            rotate_left 1
            · (go_simp <;> (try go_bits) <;> with_reducible rfl)
            simp only [Act.put, List.setIfInBounds_toArray, List.set_cons_zero, List.set_cons_succ]
            refine wpAnyP_oneG 10 (at_toArray rfl) (by kernel_rfl) (by rfl) (fun K hK => ?_)
            go_wp2_with fail
            refine (HCB.out _ HT9.out).mono ?_
            rintro e w9 ⟨rfl, hb9⟩
            have HT10 := Lib.hid (HT9.out.below hb9)
            have HB10 := Lib.hid (HB9.out.trans (Below.up hb9 HT9.out.pair.size))
            have hS' := six_below hS hb9
            clear hb9 HT9 HB9 hS
            have HT9 := HT10
            have HB9 := HB10
            have hS := hS'
            clear HT10 HB10 hS'
            go_wp2_with fail
            refine hK.out _ _ (fun _ _ => hS) ?_
            clear hK
            refine wpAnyP_pure (v := ?_) 27 (at_toArray rfl) (by kernel_rfl) (by kernel_rfl) (by kernel_rfl) (fun _ _ _ h => h) (Or.inl ⟨by rfl, fun W => ?_⟩) ?_
            rotate_left 1
            · (go_simp <;> (try go_bits) <;> with_reducible rfl)
            simp only [Act.put, List.setIfInBounds_toArray, List.set_cons_zero, List.set_cons_succ]
            refine wpAnyP_pure (v := ?_) 28 (at_toArray rfl) (by kernel_rfl) (by kernel_rfl) (by kernel_rfl) (fun _ _ _ h => h) (Or.inl ⟨by rfl, fun W => ?_⟩) ?_
            rotate_left 1
            · (go_simp <;> (try go_bits) <;> with_reducible rfl)
            simp only [Act.put, List.setIfInBounds_toArray, List.set_cons_zero, List.set_cons_succ]
            refine wpAnyP_pure (v := ?_) 29 (at_toArray rfl) (by kernel_rfl) (by kernel_rfl) (by kernel_rfl) (fun _ _ _ h => h) (Or.inl ⟨by rfl, fun W => ?_⟩) ?_
            rotate_left 1
            · (go_simp <;> (try go_bits) <;> with_reducible rfl)
            simp only [Act.put, List.setIfInBounds_toArray, List.set_cons_zero, List.set_cons_succ]
            refine wpAnyP_pure (v := ?_) 30 (at_toArray rfl) (by kernel_rfl) (by kernel_rfl) (by kernel_rfl) (fun _ _ _ h => h) (Or.inl ⟨by rfl, fun W => ?_⟩) ?_
            rotate_left 1
            · (go_simp <;> (try go_bits) <;> with_reducible rfl)
            simp only [Act.put, List.setIfInBounds_toArray, List.set_cons_zero, List.set_cons_succ]
            refine wpAnyP_pure (v := ?_) 31 (at_toArray rfl) (by kernel_rfl) (by kernel_rfl) (by kernel_rfl) (fun _ _ _ h => h) (Or.inl ⟨by rfl, fun W => ?_⟩) ?_
            rotate_left 1
            · (go_simp <;> (try go_bits) <;> with_reducible rfl)
            simp only [Act.put, List.setIfInBounds_toArray, List.set_cons_zero, List.set_cons_succ]
            refine wpAnyP_load (v := ?_) 32 (by kernel_rfl) (at_toArray rfl) (by kernel_rfl) (by kernel_rfl) (by kernel_rfl) (fun _ _ _ h => h) (by first | assumption | rfl) (Or.inl ⟨by rfl, fun W hS => ?_⟩) ?_
            rotate_left 1
            · (obtain ⟨_, _, _, _, _, _⟩ := hS; go_simp <;> (try go_bits) <;> with_reducible rfl)
            simp only [Act.put, List.setIfInBounds_toArray, List.set_cons_zero, List.set_cons_succ]
            refine wpAnyP_pure (v := ?_) 34 (at_toArray rfl) (by kernel_rfl) (by kernel_rfl) (by kernel_rfl) (fun _ _ _ h => h) (Or.inl ⟨by rfl, fun W => ?_⟩) ?_
            rotate_left 1
            · (go_simp <;> (try go_bits) <;> with_reducible rfl)
            simp only [Act.put, List.setIfInBounds_toArray, List.set_cons_zero, List.set_cons_succ]
            refine wpAnyP_pure (v := ?_) 35 (at_toArray rfl) (by kernel_rfl) (by kernel_rfl) (by kernel_rfl) (fun _ _ _ h => h) (Or.inl ⟨by rfl, fun W => ?_⟩) ?_
            rotate_left 1
            · (go_simp <;> (try go_bits) <;> with_reducible rfl)
            simp only [Act.put, List.setIfInBounds_toArray, List.set_cons_zero, List.set_cons_succ]
            refine wpAnyP_pure (v := ?_) 36 (at_toArray rfl) (by kernel_rfl) (by kernel_rfl) (by kernel_rfl) (fun _ _ _ h => h) (Or.inl ⟨by rfl, fun W => ?_⟩) ?_
            rotate_left 1
            · (go_simp <;> (try go_bits) <;> with_reducible rfl)
            simp only [Act.put, List.setIfInBounds_toArray, List.set_cons_zero, List.set_cons_succ]
            refine wpAnyP_load (v := ?_) 37 (by kernel_rfl) (at_toArray rfl) (by kernel_rfl) (by kernel_rfl) (by kernel_rfl) (fun _ _ _ h => h) (by first | assumption | rfl) (Or.inl ⟨by rfl, fun W hS => ?_⟩) ?_
            rotate_left 1
            · (obtain ⟨_, _, _, _, _, _⟩ := hS; go_simp <;> (try go_bits) <;> with_reducible rfl)
            simp only [Act.put, List.setIfInBounds_toArray, List.set_cons_zero, List.set_cons_succ]
            refine wpAnyP_pure (v := ?_) 38 (at_toArray rfl) (by kernel_rfl) (by kernel_rfl) (by kernel_rfl) (fun _ _ _ h => h) (Or.inl ⟨by rfl, fun W => ?_⟩) ?_
            rotate_left 1
            · (go_simp <;> (try go_bits) <;> with_reducible rfl)
            simp only [Act.put, List.setIfInBounds_toArray, List.set_cons_zero, List.set_cons_succ]
            refine wpAnyP_pure (v := ?_) 39 (at_toArray rfl) (by kernel_rfl) (by kernel_rfl) (by kernel_rfl) (fun _ _ _ h => h) (Or.inl ⟨by rfl, fun W => ?_⟩) ?_
            rotate_left 1
            · (go_simp <;> (try go_bits) <;> with_reducible rfl)
            simp only [Act.put, List.setIfInBounds_toArray, List.set_cons_zero, List.set_cons_succ]
            refine wpAnyP_load (v := ?_) 40 (by kernel_rfl) (at_toArray rfl) (by kernel_rfl) (by kernel_rfl) (by kernel_rfl) (fun _ _ _ h => h) (by first | assumption | rfl) (Or.inl ⟨by rfl, fun W hS => ?_⟩) ?_
            rotate_left 1
            · (obtain ⟨_, _, _, _, _, _⟩ := hS; go_simp <;> (try go_bits) <;> with_reducible rfl)
            simp only [Act.put, List.setIfInBounds_toArray, List.set_cons_zero, List.set_cons_succ]
            refine wpAnyP_oneG 33 (at_toArray rfl) (by kernel_rfl) (by rfl) (fun K hK => ?_)
            go_wp2_with fail
            refine (HCT.out _ HT9.out).mono ?_
            rintro e w9 ⟨rfl, hb9⟩
            have HT10 := Lib.hid (HT9.out.below hb9)
            have HB10 := Lib.hid (HB9.out.trans (Below.up hb9 HT9.out.pair.size))
            have hS' := six_below hS hb9
            clear hb9 HT9 HB9 hS
            have HT9 := HT10
            have HB9 := HB10
            have hS := hS'
            clear HT10 HB10 hS'
            go_wp2_with fail
            refine hK.out _ _ (fun _ _ => hS) ?_
            clear hK
            refine wpAnyP_pure (v := ?_) 41 (at_toArray rfl) (by kernel_rfl) (by kernel_rfl) (by kernel_rfl) (fun _ _ _ h => h) (Or.inl ⟨by rfl, fun W => ?_⟩) ?_
            rotate_left 1
            · (go_simp <;> (try go_bits) <;> with_reducible rfl)
            simp only [Act.put, List.setIfInBounds_toArray, List.set_cons_zero, List.set_cons_succ]
            refine wpAnyP_pure (v := ?_) 42 (at_toArray rfl) (by kernel_rfl) (by kernel_rfl) (by kernel_rfl) (fun _ _ _ h => h) (Or.inl ⟨by rfl, fun W => ?_⟩) ?_
            rotate_left 1
            · (go_simp <;> (try go_bits) <;> with_reducible rfl)
            simp only [Act.put, List.setIfInBounds_toArray, List.set_cons_zero, List.set_cons_succ]
            refine wpAnyP_pure (v := ?_) 43 (at_toArray rfl) (by kernel_rfl) (by kernel_rfl) (by kernel_rfl) (fun _ _ _ h => h) (Or.inl ⟨by rfl, fun W => ?_⟩) ?_
            rotate_left 1
            · (go_simp <;> (try go_bits) <;> with_reducible rfl)
            simp only [Act.put, List.setIfInBounds_toArray, List.set_cons_zero, List.set_cons_succ]
            refine wpAnyP_pure (v := ?_) 44 (at_toArray rfl) (by kernel_rfl) (by kernel_rfl) (by kernel_rfl) (fun _ _ _ h => h) (Or.inl ⟨by rfl, fun W => ?_⟩) ?_
            rotate_left 1
            · (go_simp <;> (try go_bits) <;> with_reducible rfl)
            simp only [Act.put, List.setIfInBounds_toArray, List.set_cons_zero, List.set_cons_succ]
            refine wpAnyP_pure (v := ?_) 45 (at_toArray rfl) (by kernel_rfl) (by kernel_rfl) (by kernel_rfl) (fun _ _ _ h => h) (Or.inl ⟨by rfl, fun W => ?_⟩) ?_
            rotate_left 1
            · (go_simp <;> (try go_bits) <;> with_reducible rfl)
            simp only [Act.put, List.setIfInBounds_toArray, List.set_cons_zero, List.set_cons_succ]
            refine wpAnyP_pure (v := ?_) 46 (at_toArray rfl) (by kernel_rfl) (by kernel_rfl) (by kernel_rfl) (fun _ _ _ h => h) (Or.inl ⟨by rfl, fun W => ?_⟩) ?_
            rotate_left 1
            · (go_simp <;> (try go_bits) <;> with_reducible rfl)
            simp only [Act.put, List.setIfInBounds_toArray, List.set_cons_zero, List.set_cons_succ]
            refine wpAnyP_load (v := ?_) 47 (by kernel_rfl) (at_toArray rfl) (by kernel_rfl) (by kernel_rfl) (by kernel_rfl) (fun _ _ _ h => h) (by first | assumption | rfl) (Or.inl ⟨by rfl, fun W hS => ?_⟩) ?_
            rotate_left 1
            · (obtain ⟨_, _, _, _, _, _⟩ := hS; go_simp <;> (try go_bits) <;> with_reducible rfl)
            simp only [Act.put, List.setIfInBounds_toArray, List.set_cons_zero, List.set_cons_succ]
            refine wpAnyP_pure (v := ?_) 49 (at_toArray rfl) (by kernel_rfl) (by kernel_rfl) (by kernel_rfl) (fun _ _ _ h => h) (Or.inl ⟨by rfl, fun W => ?_⟩) ?_
            rotate_left 1
            · (go_simp <;> (try go_bits) <;> with_reducible rfl)
            simp only [Act.put, List.setIfInBounds_toArray, List.set_cons_zero, List.set_cons_succ]
            refine wpAnyP_pure (v := ?_) 50 (at_toArray rfl) (by kernel_rfl) (by kernel_rfl) (by kernel_rfl) (fun _ _ _ h => h) (Or.inl ⟨by rfl, fun W => ?_⟩) ?_
            rotate_left 1
            · (go_simp <;> (try go_bits) <;> with_reducible rfl)
            simp only [Act.put, List.setIfInBounds_toArray, List.set_cons_zero, List.set_cons_succ]
            refine wpAnyP_pure (v := ?_) 51 (at_toArray rfl) (by kernel_rfl) (by kernel_rfl) (by kernel_rfl) (fun _ _ _ h => h) (Or.inl ⟨by rfl, fun W => ?_⟩) ?_
            rotate_left 1
            · (go_simp <;> (try go_bits) <;> with_reducible rfl)
            simp only [Act.put, List.setIfInBounds_toArray, List.set_cons_zero, List.set_cons_succ]
            refine wpAnyP_load (v := ?_) 52 (by kernel_rfl) (at_toArray rfl) (by kernel_rfl) (by kernel_rfl) (by kernel_rfl) (fun _ _ _ h => h) (by first | assumption | rfl) (Or.inl ⟨by rfl, fun W hS => ?_⟩) ?_
            rotate_left 1
            · (obtain ⟨_, _, _, _, _, _⟩ := hS; go_simp <;> (try go_bits) <;> with_reducible rfl)
            simp only [Act.put, List.setIfInBounds_toArray, List.set_cons_zero, List.set_cons_succ]
            refine wpAnyP_oneG 48 (at_toArray rfl) (by kernel_rfl) (by rfl) (fun K hK => ?_)
            go_wp2_with fail
            refine (HCS.out _ HT9.out).mono ?_
            rintro e w9 ⟨rfl, hb9⟩
            have HT10 := Lib.hid (HT9.out.below hb9)
            have HB10 := Lib.hid (HB9.out.trans (Below.up hb9 HT9.out.pair.size))
            have hS' := six_below hS hb9
            clear hb9 HT9 HB9 hS
            have HT9 := HT10
            have HB9 := HB10
            have hS := hS'
            clear HT10 HB10 hS'
            go_wp2_with fail
            refine hK.out _ _ (fun _ _ => hS) ?_
            clear hK
            refine wpAnyP_oneG 53 (at_toArray rfl) (by kernel_rfl) (by rfl) (fun K hK => ?_)
            go_wp2_with fail
            refine (HRS.out _ HT9.out).mono ?_
            rintro e w9 ⟨rfl, hb9⟩
            have HT10 := Lib.hid (HT9.out.below hb9)
            have HB10 := Lib.hid (HB9.out.trans (Below.up hb9 HT9.out.pair.size))
            have hS' := six_below hS hb9
            clear hb9 HT9 HB9 hS
            have HT9 := HT10
            have HB9 := HB10
            have hS := hS'
            clear HT10 HB10 hS'
            go_wp2_with fail
            refine hK.out _ _ (fun _ _ => hS) ?_
            clear hK
            refine wpAnyP_pure (v := ?_) 54 (at_toArray rfl) (by kernel_rfl) (by kernel_rfl) (by kernel_rfl) (fun _ _ _ h => h) (Or.inl ⟨by rfl, fun W => ?_⟩) ?_
            rotate_left 1
            · (go_simp <;> (try go_bits) <;> with_reducible rfl)
            simp only [Act.put, List.setIfInBounds_toArray, List.set_cons_zero, List.set_cons_succ]
            refine wpAnyP_pure (v := ?_) 55 (at_toArray rfl) (by kernel_rfl) (by kernel_rfl) (by kernel_rfl) (fun _ _ _ h => h) (Or.inl ⟨by rfl, fun W => ?_⟩) ?_
            rotate_left 1
            · (go_simp <;> (try go_bits) <;> with_reducible rfl)
            simp only [Act.put, List.setIfInBounds_toArray, List.set_cons_zero, List.set_cons_succ]
            refine wpAnyP_pure (v := ?_) 56 (at_toArray rfl) (by kernel_rfl) (by kernel_rfl) (by kernel_rfl) (fun _ _ _ h => h) (Or.inl ⟨by rfl, fun W => ?_⟩) ?_
            rotate_left 1
            · (go_simp <;> (try go_bits) <;> with_reducible rfl)
            simp only [Act.put, List.setIfInBounds_toArray, List.set_cons_zero, List.set_cons_succ]
            refine wpAnyP_pure (v := ?_) 57 (at_toArray rfl) (by kernel_rfl) (by kernel_rfl) (by kernel_rfl) (fun _ _ _ h => h) (Or.inl ⟨by rfl, fun W => ?_⟩) ?_
            rotate_left 1
            · (go_simp <;> (try go_bits) <;> with_reducible rfl)
            simp only [Act.put, List.setIfInBounds_toArray, List.set_cons_zero, List.set_cons_succ]
            refine wpAnyP_pure (v := ?_) 58 (at_toArray rfl) (by kernel_rfl) (by kernel_rfl) (by kernel_rfl) (fun _ _ _ h => h) (Or.inl ⟨by rfl, fun W => ?_⟩) ?_
            rotate_left 1
            · (go_simp <;> (try go_bits) <;> with_reducible rfl)
            simp only [Act.put, List.setIfInBounds_toArray, List.set_cons_zero, List.set_cons_succ]
            refine wpAnyP_pure (v := ?_) 59 (at_toArray rfl) (by kernel_rfl) (by kernel_rfl) (by kernel_rfl) (fun _ _ _ h => h) (Or.inl ⟨by rfl, fun W => ?_⟩) ?_
            rotate_left 1
            · (go_simp <;> (try go_bits) <;> with_reducible rfl)
            simp only [Act.put, List.setIfInBounds_toArray, List.set_cons_zero, List.set_cons_succ]
            refine wpAnyP_load (v := ?_) 60 (by kernel_rfl) (at_toArray rfl) (by kernel_rfl) (by kernel_rfl) (by kernel_rfl) (fun _ _ _ h => h) (by first | assumption | rfl) (Or.inl ⟨by rfl, fun W hS => ?_⟩) ?_
            rotate_left 1
            · (obtain ⟨_, _, _, _, _, _⟩ := hS; go_simp <;> (try go_bits) <;> with_reducible rfl)
            simp only [Act.put, List.setIfInBounds_toArray, List.set_cons_zero, List.set_cons_succ]
            refine wpAnyP_pure (v := ?_) 62 (at_toArray rfl) (by kernel_rfl) (by kernel_rfl) (by kernel_rfl) (fun _ _ _ h => h) (Or.inl ⟨by rfl, fun W => ?_⟩) ?_
            rotate_left 1
            · (go_simp <;> (try go_bits) <;> with_reducible rfl)
            simp only [Act.put, List.setIfInBounds_toArray, List.set_cons_zero, List.set_cons_succ]
            refine wpAnyP_pure (v := ?_) 63 (at_toArray rfl) (by kernel_rfl) (by kernel_rfl) (by kernel_rfl) (fun _ _ _ h => h) (Or.inl ⟨by rfl, fun W => ?_⟩) ?_
            rotate_left 1
            · (go_simp <;> (try go_bits) <;> with_reducible rfl)
            simp only [Act.put, List.setIfInBounds_toArray, List.set_cons_zero, List.set_cons_succ]
            refine wpAnyP_pure (v := ?_) 64 (at_toArray rfl) (by kernel_rfl) (by kernel_rfl) (by kernel_rfl) (fun _ _ _ h => h) (Or.inl ⟨by rfl, fun W => ?_⟩) ?_
            rotate_left 1
            · (go_simp <;> (try go_bits) <;> with_reducible rfl)
            simp only [Act.put, List.setIfInBounds_toArray, List.set_cons_zero, List.set_cons_succ]
            refine wpAnyP_load (v := ?_) 65 (by kernel_rfl) (at_toArray rfl) (by kernel_rfl) (by kernel_rfl) (by kernel_rfl) (fun _ _ _ h => h) (by first | assumption | rfl) (Or.inl ⟨by rfl, fun W hS => ?_⟩) ?_
            rotate_left 1
            · (obtain ⟨_, _, _, _, _, _⟩ := hS; go_simp <;> (try go_bits) <;> with_reducible rfl)
            simp only [Act.put, List.setIfInBounds_toArray, List.set_cons_zero, List.set_cons_succ]
            refine wpAnyP_oneG 61 (at_toArray rfl) (by kernel_rfl) (by rfl) (fun K hK => ?_)
            go_wp2_with fail
            refine (HCO.out _ HT9.out).mono ?_
            rintro e w9 ⟨rfl, hb9⟩
            have HT10 := Lib.hid (HT9.out.below hb9)
            have HB10 := Lib.hid (HB9.out.trans (Below.up hb9 HT9.out.pair.size))
            have hS' := six_below hS hb9
            clear hb9 HT9 HB9 hS
            have HT9 := HT10
            have HB9 := HB10
            have hS := hS'
            clear HT10 HB10 hS'
            go_wp2_with fail
            refine hK.out _ _ (fun _ _ => hS) ?_
            clear hK
            refine wpAnyP_oneG 66 (at_toArray rfl) (by kernel_rfl) (by rfl) (fun K hK => ?_)
            go_wp2_with fail
            refine (HRO.out _ HT9.out).mono ?_
            rintro e w9 ⟨rfl, hb9⟩
            have HT10 := Lib.hid (HT9.out.below hb9)
            have HB10 := Lib.hid (HB9.out.trans (Below.up hb9 HT9.out.pair.size))
            have hS' := six_below hS hb9
            clear hb9 HT9 HB9 hS
            have HT9 := HT10
            have HB9 := HB10
            have hS := hS'
            clear HT10 HB10 hS'
            go_wp2_with fail
            refine hK.out _ _ (fun _ _ => hS) ?_
            clear hK
            refine wpAnyP_pure (v := ?_) 67 (at_toArray rfl) (by kernel_rfl) (by kernel_rfl) (by kernel_rfl) (fun _ _ _ h => h) (Or.inl ⟨by rfl, fun W => ?_⟩) ?_
            rotate_left 1
            · (go_simp <;> (try go_bits) <;> with_reducible rfl)
            simp only [Act.put, List.setIfInBounds_toArray, List.set_cons_zero, List.set_cons_succ]
            refine wpAnyP_pure (v := ?_) 68 (at_toArray rfl) (by kernel_rfl) (by kernel_rfl) (by kernel_rfl) (fun _ _ _ h => h) (Or.inl ⟨by rfl, fun W => ?_⟩) ?_
            rotate_left 1
            · (go_simp <;> (try go_bits) <;> with_reducible rfl)
            simp only [Act.put, List.setIfInBounds_toArray, List.set_cons_zero, List.set_cons_succ]
            refine wpAnyP_pure (v := ?_) 69 (at_toArray rfl) (by kernel_rfl) (by kernel_rfl) (by kernel_rfl) (fun _ _ _ h => h) (Or.inl ⟨by rfl, fun W => ?_⟩) ?_
            rotate_left 1
            · (go_simp <;> (try go_bits) <;> with_reducible rfl)
            simp only [Act.put, List.setIfInBounds_toArray, List.set_cons_zero, List.set_cons_succ]
            refine wpAnyP_done (by kernel_rfl) ?_ _
            go_wp2_with fail
            go_roundw
            case rel => exact ⟨k + 1, by omega, by go_num, HB9, T7, F7, G7, _, HT9⟩
            case measure => simp [intOf]; omega
          · obtain ⟨Ax, dx, n, hn, r6⟩ : ∃ Ax dx n, n = (T7.b1).length ∧ w8.drew.cell? ⟨rb, 2, none⟩ = some (.slice Ax n dx) := by
              obtain ⟨l, k, u0, u1, t⟩ := HT9.out.pair.ref
              have ll := t.len1
              obtain ⟨Ax, dx, hu, _⟩ := t.o1.reads' (by omega)
              exact ⟨Ax, dx, _, rfl, by rw [← hu]; exact t.blk.cell 2⟩
            have hn' : ((T7.b J.area).length : Int) = (n : Int) := by rw [hn, ha]; rfl
            have HCB : Hid (∀ W, Bth B W bb tb rb T7 F7 G7 (some (jb, rj, J)) → Calls Tryz.prog 11 #[.pointer (some ⟨jb, 0, none⟩)] W fun e w' => e = .returned (.int .i64 (n : Int)) ∧ Below W.heap.size W w') := Lib.hid fun W h => by
              have := jbytes_any (h.js2.jrr h.pb)
              rwa [hlen, hn'] at this
            have HCT : Hid (∀ W, Bth B W bb tb rb T7 F7 G7 (some (jb, rj, J)) → Calls Tryz.prog 12 #[.pointer (some ⟨jb, 0, none⟩)] W fun e w' => e = .returned (.int .i64 tn) ∧ Below W.heap.size W w') := Lib.hid fun W h => by
              have := turn_any (h.js2.jrr h.pb)
              rwa [← htn] at this
            have HCS : Hid (∀ W, Bth B W bb tb rb T7 F7 G7 (some (jb, rj, J)) → Calls Tryz.prog 13 #[.pointer (some ⟨jb, 0, none⟩)] W fun e w' => e = .returned (.bool bs) ∧ Below W.heap.size W w') := Lib.hid fun W h => by
              have := jsure_any (h.js2.jrr h.pb)
              rwa [hlen, ← hbs] at this
            have HRS : Hid (∀ W, Bth B W bb tb rb T7 F7 G7 (some (jb, rj, J)) → Calls Tryz.prog 14 #[.pointer (some ⟨rj, 0, none⟩)] W fun e w' => e = .returned (.bool bs) ∧ Below W.heap.size W w') := Lib.hid fun W h => by
              have := rjsure_any (h.js2.rjr h.pb) (by rw [ha]; simp)
              rwa [← hbs] at this
            have HCO : Hid (∀ W, Bth B W bb tb rb T7 F7 G7 (some (jb, rj, J)) → Calls Tryz.prog 15 #[.pointer (some ⟨jb, 0, none⟩)] W fun e w' => e = .returned (.bool bo) ∧ Below W.heap.size W w') := Lib.hid fun W h => by
              have := jon_any (h.js2.jrr h.pb)
              rwa [← hbo] at this
            have HRO : Hid (∀ W, Bth B W bb tb rb T7 F7 G7 (some (jb, rj, J)) → Calls Tryz.prog 16 #[.pointer (some ⟨rj, 0, none⟩)] W fun e w' => e = .returned (.bool bo) ∧ Below W.heap.size W w') := Lib.hid fun W h => by
              have := ron_any (h.js2.rjr h.pb)
              rwa [← hbo] at this
            rw [ha] at r1
            have e1 : ((n : Int) != (n : Int)) = false := by simp
            clear hn hn' hlen htn hbo hbs HJT
            refine wp_region_phased (fun W => W.cell? ⟨bb, 1, none⟩ = some (.pointer (some ⟨jb, 0, none⟩)) ∧ W.cell? ⟨bb, 2, none⟩ = some (.pointer (some ⟨rb, 0, none⟩)) ∧ W.cell? ⟨bb, 3, none⟩ = some (.pointer (some ⟨rj, 0, none⟩)) ∧ W.cell? ⟨rj, 1, none⟩ = some (.int .i64 1) ∧ W.cell? ⟨rj, 2, none⟩ = some (.int .i64 tn) ∧ W.cell? ⟨rb, 2, none⟩ = some (.slice Ax n dx)) 70 (by kernel_rfl) ⟨q1, q2, q3, r1, r2, r6⟩ (fun hS => ?_)
            clear q1 q2 q3 r1 r2 r6
            refine wpAnyP_pure (v := ?_) 0 (at_toArray rfl) (by kernel_rfl) (by kernel_rfl) (by kernel_rfl) (fun _ _ _ h => h) (Or.inl ⟨by rfl, fun W => ?_⟩) ?_
            rotate_left 1
            · (go_simp <;> (try go_bits) <;> with_reducible rfl)
            simp only [Act.put, List.setIfInBounds_toArray, List.set_cons_zero, List.set_cons_succ]
            refine wpAnyP_pure (v := ?_) 1 (at_toArray rfl) (by kernel_rfl) (by kernel_rfl) (by kernel_rfl) (fun _ _ _ h => h) (Or.inl ⟨by rfl, fun W => ?_⟩) ?_
            rotate_left 1
            · (go_simp <;> (try go_bits) <;> with_reducible rfl)
            simp only [Act.put, List.setIfInBounds_toArray, List.set_cons_zero, List.set_cons_succ]
            refine wpAnyP_pure (v := ?_) 2 (at_toArray rfl) (by kernel_rfl) (by kernel_rfl) (by kernel_rfl) (fun _ _ _ h => h) (Or.inl ⟨by rfl, fun W => ?_⟩) ?_
            rotate_left 1
            · (go_simp <;> (try go_bits) <;> with_reducible rfl)
            simp only [Act.put, List.setIfInBounds_toArray, List.set_cons_zero, List.set_cons_succ]
            refine wpAnyP_load (v := ?_) 3 (by kernel_rfl) (at_toArray rfl) (by kernel_rfl) (by kernel_rfl) (by kernel_rfl) (fun _ _ _ h => h) (by first | assumption | rfl) (Or.inl ⟨by rfl, fun W hS => ?_⟩) ?_
            rotate_left 1
            · (obtain ⟨_, _, _, _, _, _⟩ := hS; go_simp <;> (try go_bits) <;> with_reducible rfl)
            simp only [Act.put, List.setIfInBounds_toArray, List.set_cons_zero, List.set_cons_succ]
            refine wpAnyP_pure (v := ?_) 4 (at_toArray rfl) (by kernel_rfl) (by kernel_rfl) (by kernel_rfl) (fun _ _ _ h => h) (Or.inl ⟨by rfl, fun W => ?_⟩) ?_
            rotate_left 1
            · (go_simp <;> (try go_bits) <;> with_reducible rfl)
            simp only [Act.put, List.setIfInBounds_toArray, List.set_cons_zero, List.set_cons_succ]
            refine wpAnyP_pure (v := ?_) 5 (at_toArray rfl) (by kernel_rfl) (by kernel_rfl) (by kernel_rfl) (fun _ _ _ h => h) (Or.inl ⟨by rfl, fun W => ?_⟩) ?_
            rotate_left 1
            · (go_simp <;> (try go_bits) <;> with_reducible rfl)
            simp only [Act.put, List.setIfInBounds_toArray, List.set_cons_zero, List.set_cons_succ]
            refine wpAnyP_pure (v := ?_) 6 (at_toArray rfl) (by kernel_rfl) (by kernel_rfl) (by kernel_rfl) (fun _ _ _ h => h) (Or.inl ⟨by rfl, fun W => ?_⟩) ?_
            rotate_left 1
            · (go_simp <;> (try go_bits) <;> with_reducible rfl)
            simp only [Act.put, List.setIfInBounds_toArray, List.set_cons_zero, List.set_cons_succ]
            refine wpAnyP_pure (v := ?_) 7 (at_toArray rfl) (by kernel_rfl) (by kernel_rfl) (by kernel_rfl) (fun _ _ _ h => h) (Or.inl ⟨by rfl, fun W => ?_⟩) ?_
            rotate_left 1
            · (go_simp <;> (try go_bits) <;> with_reducible rfl)
            simp only [Act.put, List.setIfInBounds_toArray, List.set_cons_zero, List.set_cons_succ]
            refine wpAnyP_pure (v := ?_) 8 (at_toArray rfl) (by kernel_rfl) (by kernel_rfl) (by kernel_rfl) (fun _ _ _ h => h) (Or.inl ⟨by rfl, fun W => ?_⟩) ?_
            rotate_left 1
            · (go_simp <;> (try go_bits) <;> with_reducible rfl)
            simp only [Act.put, List.setIfInBounds_toArray, List.set_cons_zero, List.set_cons_succ]
            refine wpAnyP_load (v := ?_) 9 (by kernel_rfl) (at_toArray rfl) (by kernel_rfl) (by kernel_rfl) (by kernel_rfl) (fun _ _ _ h => h) (by first | assumption | rfl) (Or.inl ⟨by rfl, fun W hS => ?_⟩) ?_
            rotate_left 1
            · (obtain ⟨_, _, _, _, _, _⟩ := hS; go_simp <;> (try go_bits) <;> with_reducible rfl)
            simp only [Act.put, List.setIfInBounds_toArray, List.set_cons_zero, List.set_cons_succ]
            refine wpAnyP_pure (v := ?_) 11 (at_toArray rfl) (by kernel_rfl) (by kernel_rfl) (by kernel_rfl) (fun _ _ _ h => h) (Or.inl ⟨by rfl, fun W => ?_⟩) ?_
            rotate_left 1
            · (go_simp <;> (try go_bits) <;> with_reducible rfl)
            simp only [Act.put, List.setIfInBounds_toArray, List.set_cons_zero, List.set_cons_succ]
            refine wpAnyP_pure (v := ?_) 12 (at_toArray rfl) (by kernel_rfl) (by kernel_rfl) (by kernel_rfl) (fun _ _ _ h => h) (Or.inl ⟨by rfl, fun W => ?_⟩) ?_
            rotate_left 1
            · (go_simp <;> (try go_bits) <;> with_reducible rfl)
            simp only [Act.put, List.setIfInBounds_toArray, List.set_cons_zero, List.set_cons_succ]
            refine wpAnyP_pure (v := ?_) 13 (at_toArray rfl) (by kernel_rfl) (by kernel_rfl) (by kernel_rfl) (fun _ _ _ h => h) (Or.inl ⟨by rfl, fun W => ?_⟩) ?_
            rotate_left 1
            · (go_simp <;> (try go_bits) <;> with_reducible rfl)
            simp only [Act.put, List.setIfInBounds_toArray, List.set_cons_zero, List.set_cons_succ]
            refine wpAnyP_load (v := ?_) 14 (by kernel_rfl) (at_toArray rfl) (by kernel_rfl) (by kernel_rfl) (by kernel_rfl) (fun _ _ _ h => h) (by first | assumption | rfl) (Or.inl ⟨by rfl, fun W hS => ?_⟩) ?_
            rotate_left 1
            · (obtain ⟨_, _, _, _, _, _⟩ := hS; go_simp <;> (try go_bits) <;> with_reducible rfl)
            simp only [Act.put, List.setIfInBounds_toArray, List.set_cons_zero, List.set_cons_succ]
            refine wpAnyP_pure (v := ?_) 15 (at_toArray rfl) (by kernel_rfl) (by kernel_rfl) (by kernel_rfl) (fun _ _ _ h => h) (Or.inl ⟨by rfl, fun W => ?_⟩) ?_
            rotate_left 1
            · (go_simp <;> (try go_bits) <;> with_reducible rfl)
            simp only [Act.put, List.setIfInBounds_toArray, List.set_cons_zero, List.set_cons_succ]
            refine wpAnyP_pure (v := ?_) 16 (at_toArray rfl) (by kernel_rfl) (by kernel_rfl) (by kernel_rfl) (fun _ _ _ h => h) (Or.inl ⟨by rfl, fun W => ?_⟩) ?_
            rotate_left 1
            · (go_simp <;> (try go_bits) <;> with_reducible rfl)
            simp only [Act.put, List.setIfInBounds_toArray, List.set_cons_zero, List.set_cons_succ]
            refine wpAnyP_pure (v := ?_) 17 (at_toArray rfl) (by kernel_rfl) (by kernel_rfl) (by kernel_rfl) (fun _ _ _ h => h) (Or.inl ⟨by rfl, fun W => ?_⟩) ?_
            rotate_left 1
            · (go_simp <;> (try go_bits) <;> with_reducible rfl)
            simp only [Act.put, List.setIfInBounds_toArray, List.set_cons_zero, List.set_cons_succ]
            refine wpAnyP_load (v := ?_) 18 (by kernel_rfl) (at_toArray rfl) (by kernel_rfl) (by kernel_rfl) (by kernel_rfl) (fun _ _ _ h => h) (by first | assumption | rfl) (Or.inl ⟨by rfl, fun W hS => ?_⟩) ?_
            rotate_left 1
            · (obtain ⟨_, _, _, _, _, _⟩ := hS; go_simp <;> (try go_bits) <;> with_reducible rfl)
            simp only [Act.put, List.setIfInBounds_toArray, List.set_cons_zero, List.set_cons_succ]
            refine wpAnyP_pure (v := ?_) 19 (at_toArray rfl) (by kernel_rfl) (by kernel_rfl) (by kernel_rfl) (fun _ _ _ h => h) (Or.inl ⟨by rfl, fun W => ?_⟩) ?_
            rotate_left 1
            · (go_simp <;> (try go_bits) <;> with_reducible rfl)
            simp only [Act.put, List.setIfInBounds_toArray, List.set_cons_zero, List.set_cons_succ]
            refine wpAnyP_pure (v := ?_) 20 (at_toArray rfl) (by kernel_rfl) (by kernel_rfl) (by kernel_rfl) (fun _ _ _ h => h) (Or.inl ⟨by rfl, fun W => ?_⟩) ?_
            rotate_left 1
            · (go_simp <;> (try go_bits) <;> with_reducible rfl)
            simp only [Act.put, List.setIfInBounds_toArray, List.set_cons_zero, List.set_cons_succ]
            refine wpAnyP_load (v := ?_) 21 (by kernel_rfl) (at_toArray rfl) (by kernel_rfl) (by kernel_rfl) (by kernel_rfl) (fun _ _ _ h => h) (by first | assumption | rfl) (Or.inl ⟨by rfl, fun W hS => ?_⟩) ?_
            rotate_left 1
            · (obtain ⟨_, _, _, _, _, _⟩ := hS; go_simp <;> (try go_bits) <;> with_reducible rfl)
            simp only [Act.put, List.setIfInBounds_toArray, List.set_cons_zero, List.set_cons_succ]
            refine wpAnyP_pure (v := ?_) 22 (at_toArray rfl) (by kernel_rfl) (by kernel_rfl) (by kernel_rfl) (fun _ _ _ h => h) (Or.inl ⟨by rfl, fun W => ?_⟩) ?_
            rotate_left 1
            · (go_simp <;> (try go_bits) <;> with_reducible rfl)
            simp only [Act.put, List.setIfInBounds_toArray, List.set_cons_zero, List.set_cons_succ]
            refine wpAnyP_pure (v := ?_) 23 (at_toArray rfl) (by kernel_rfl) (by kernel_rfl) (by kernel_rfl) (fun _ _ _ h => h) (Or.inl ⟨by rfl, fun W => ?_⟩) ?_
            rotate_left 1
            · (go_simp <;> (try go_bits) <;> with_reducible rfl)
            simp only [Act.put, List.setIfInBounds_toArray, List.set_cons_zero, List.set_cons_succ]
            refine wpAnyP_pure (v := ?_) 24 (at_toArray rfl) (by kernel_rfl) (by kernel_rfl) (by kernel_rfl) (fun _ _ _ h => h) (Or.inl ⟨by rfl, fun W => ?_⟩) ?_
            rotate_left 1
            · (go_simp <;> (try go_bits) <;> with_reducible rfl)
            simp only [Act.put, List.setIfInBounds_toArray, List.set_cons_zero, List.set_cons_succ]
            refine wpAnyP_load (v := ?_) 25 (by kernel_rfl) (at_toArray rfl) (by kernel_rfl) (by kernel_rfl) (by kernel_rfl) (fun _ _ _ h => h) (by first | assumption | rfl) (Or.inl ⟨by rfl, fun W hS => ?_⟩) ?_
            rotate_left 1
            · (obtain ⟨_, _, _, _, _, _⟩ := hS; go_simp <;> (try go_bits) <;> with_reducible rfl)
            simp only [Act.put, List.setIfInBounds_toArray, List.set_cons_zero, List.set_cons_succ]
            refine wpAnyP_pure (v := ?_) 26 (at_toArray rfl) (by kernel_rfl) (by kernel_rfl) (by kernel_rfl) (fun _ _ _ h => h) (Or.inl ⟨by rfl, fun W => ?_⟩) ?_
            rotate_left 1
            · (go_simp <;> (try go_bits) <;> with_reducible rfl)
            simp only [Act.put, List.setIfInBounds_toArray, List.set_cons_zero, List.set_cons_succ]
            refine wpAnyP_oneG 10 (at_toArray rfl) (by kernel_rfl) (by rfl) (fun K hK => ?_)
            go_wp2_with fail
            refine (HCB.out _ HT9.out).mono ?_
            rintro e w9 ⟨rfl, hb9⟩
            have HT10 := Lib.hid (HT9.out.below hb9)
            have HB10 := Lib.hid (HB9.out.trans (Below.up hb9 HT9.out.pair.size))
            have hS' := six_below hS hb9
            clear hb9 HT9 HB9 hS
            have HT9 := HT10
            have HB9 := HB10
            have hS := hS'
            clear HT10 HB10 hS'
            go_wp2_with fail
            refine hK.out _ _ (fun _ _ => hS) ?_
            clear hK
            refine wpAnyP_pure (v := ?_) 27 (at_toArray rfl) (by kernel_rfl) (by kernel_rfl) (by kernel_rfl) (fun _ _ _ h => h) (Or.inl ⟨by rfl, fun W => ?_⟩) ?_
            rotate_left 1
            · (go_simp <;> (try go_bits) <;> with_reducible rfl)
            simp only [Act.put, List.setIfInBounds_toArray, List.set_cons_zero, List.set_cons_succ]
            refine wpAnyP_pure (v := ?_) 28 (at_toArray rfl) (by kernel_rfl) (by kernel_rfl) (by kernel_rfl) (fun _ _ _ h => h) (Or.inl ⟨by rfl, fun W => ?_⟩) ?_
            rotate_left 1
            · (go_simp <;> (try go_bits) <;> with_reducible rfl)
            simp only [Act.put, List.setIfInBounds_toArray, List.set_cons_zero, List.set_cons_succ]
            refine wpAnyP_pure (v := ?_) 29 (at_toArray rfl) (by kernel_rfl) (by kernel_rfl) (by kernel_rfl) (fun _ _ _ h => h) (Or.inl ⟨by rfl, fun W => ?_⟩) ?_
            rotate_left 1
            · (go_simp <;> (try go_bits) <;> with_reducible rfl)
            simp only [Act.put, List.setIfInBounds_toArray, List.set_cons_zero, List.set_cons_succ]
            refine wpAnyP_pure (v := ?_) 30 (at_toArray rfl) (by kernel_rfl) (by kernel_rfl) (by kernel_rfl) (fun _ _ _ h => h) (Or.inl ⟨by rfl, fun W => ?_⟩) ?_
            rotate_left 1
            · (go_simp <;> (try go_bits) <;> with_reducible rfl)
            simp only [Act.put, List.setIfInBounds_toArray, List.set_cons_zero, List.set_cons_succ]
            refine wpAnyP_pure (v := ?_) 31 (at_toArray rfl) (by kernel_rfl) (by kernel_rfl) (by kernel_rfl) (fun _ _ _ h => h) (Or.inl ⟨by rfl, fun W => ?_⟩) ?_
            rotate_left 1
            · (go_simp <;> (try go_bits) <;> with_reducible rfl)
            simp only [Act.put, List.setIfInBounds_toArray, List.set_cons_zero, List.set_cons_succ]
            refine wpAnyP_load (v := ?_) 32 (by kernel_rfl) (at_toArray rfl) (by kernel_rfl) (by kernel_rfl) (by kernel_rfl) (fun _ _ _ h => h) (by first | assumption | rfl) (Or.inl ⟨by rfl, fun W hS => ?_⟩) ?_
            rotate_left 1
            · (obtain ⟨_, _, _, _, _, _⟩ := hS; go_simp <;> (try go_bits) <;> with_reducible rfl)
            simp only [Act.put, List.setIfInBounds_toArray, List.set_cons_zero, List.set_cons_succ]
            refine wpAnyP_pure (v := ?_) 34 (at_toArray rfl) (by kernel_rfl) (by kernel_rfl) (by kernel_rfl) (fun _ _ _ h => h) (Or.inl ⟨by rfl, fun W => ?_⟩) ?_
            rotate_left 1
            · (go_simp <;> (try go_bits) <;> with_reducible rfl)
            simp only [Act.put, List.setIfInBounds_toArray, List.set_cons_zero, List.set_cons_succ]
            refine wpAnyP_pure (v := ?_) 35 (at_toArray rfl) (by kernel_rfl) (by kernel_rfl) (by kernel_rfl) (fun _ _ _ h => h) (Or.inl ⟨by rfl, fun W => ?_⟩) ?_
            rotate_left 1
            · (go_simp <;> (try go_bits) <;> with_reducible rfl)
            simp only [Act.put, List.setIfInBounds_toArray, List.set_cons_zero, List.set_cons_succ]
            refine wpAnyP_pure (v := ?_) 36 (at_toArray rfl) (by kernel_rfl) (by kernel_rfl) (by kernel_rfl) (fun _ _ _ h => h) (Or.inl ⟨by rfl, fun W => ?_⟩) ?_
            rotate_left 1
            · (go_simp <;> (try go_bits) <;> with_reducible rfl)
            simp only [Act.put, List.setIfInBounds_toArray, List.set_cons_zero, List.set_cons_succ]
            refine wpAnyP_load (v := ?_) 37 (by kernel_rfl) (at_toArray rfl) (by kernel_rfl) (by kernel_rfl) (by kernel_rfl) (fun _ _ _ h => h) (by first | assumption | rfl) (Or.inl ⟨by rfl, fun W hS => ?_⟩) ?_
            rotate_left 1
            · (obtain ⟨_, _, _, _, _, _⟩ := hS; go_simp <;> (try go_bits) <;> with_reducible rfl)
            simp only [Act.put, List.setIfInBounds_toArray, List.set_cons_zero, List.set_cons_succ]
            refine wpAnyP_pure (v := ?_) 38 (at_toArray rfl) (by kernel_rfl) (by kernel_rfl) (by kernel_rfl) (fun _ _ _ h => h) (Or.inl ⟨by rfl, fun W => ?_⟩) ?_
            rotate_left 1
            · (go_simp <;> (try go_bits) <;> with_reducible rfl)
            simp only [Act.put, List.setIfInBounds_toArray, List.set_cons_zero, List.set_cons_succ]
            refine wpAnyP_pure (v := ?_) 39 (at_toArray rfl) (by kernel_rfl) (by kernel_rfl) (by kernel_rfl) (fun _ _ _ h => h) (Or.inl ⟨by rfl, fun W => ?_⟩) ?_
            rotate_left 1
            · (go_simp <;> (try go_bits) <;> with_reducible rfl)
            simp only [Act.put, List.setIfInBounds_toArray, List.set_cons_zero, List.set_cons_succ]
            refine wpAnyP_load (v := ?_) 40 (by kernel_rfl) (at_toArray rfl) (by kernel_rfl) (by kernel_rfl) (by kernel_rfl) (fun _ _ _ h => h) (by first | assumption | rfl) (Or.inl ⟨by rfl, fun W hS => ?_⟩) ?_
            rotate_left 1
            · (obtain ⟨_, _, _, _, _, _⟩ := hS; go_simp <;> (try go_bits) <;> with_reducible rfl)
            simp only [Act.put, List.setIfInBounds_toArray, List.set_cons_zero, List.set_cons_succ]
            refine wpAnyP_oneG 33 (at_toArray rfl) (by kernel_rfl) (by rfl) (fun K hK => ?_)
            go_wp2_with fail
            refine (HCT.out _ HT9.out).mono ?_
            rintro e w9 ⟨rfl, hb9⟩
            have HT10 := Lib.hid (HT9.out.below hb9)
            have HB10 := Lib.hid (HB9.out.trans (Below.up hb9 HT9.out.pair.size))
            have hS' := six_below hS hb9
            clear hb9 HT9 HB9 hS
            have HT9 := HT10
            have HB9 := HB10
            have hS := hS'
            clear HT10 HB10 hS'
            go_wp2_with fail
            refine hK.out _ _ (fun _ _ => hS) ?_
            clear hK
            refine wpAnyP_pure (v := ?_) 41 (at_toArray rfl) (by kernel_rfl) (by kernel_rfl) (by kernel_rfl) (fun _ _ _ h => h) (Or.inl ⟨by rfl, fun W => ?_⟩) ?_
            rotate_left 1
            · (go_simp <;> (try go_bits) <;> with_reducible rfl)
            simp only [Act.put, List.setIfInBounds_toArray, List.set_cons_zero, List.set_cons_succ]
            refine wpAnyP_pure (v := ?_) 42 (at_toArray rfl) (by kernel_rfl) (by kernel_rfl) (by kernel_rfl) (fun _ _ _ h => h) (Or.inl ⟨by rfl, fun W => ?_⟩) ?_
            rotate_left 1
            · (go_simp <;> (try go_bits) <;> with_reducible rfl)
            simp only [Act.put, List.setIfInBounds_toArray, List.set_cons_zero, List.set_cons_succ]
            refine wpAnyP_pure (v := ?_) 43 (at_toArray rfl) (by kernel_rfl) (by kernel_rfl) (by kernel_rfl) (fun _ _ _ h => h) (Or.inl ⟨by rfl, fun W => ?_⟩) ?_
            rotate_left 1
            · (go_simp <;> (try go_bits) <;> with_reducible rfl)
            simp only [Act.put, List.setIfInBounds_toArray, List.set_cons_zero, List.set_cons_succ]
            refine wpAnyP_pure (v := ?_) 44 (at_toArray rfl) (by kernel_rfl) (by kernel_rfl) (by kernel_rfl) (fun _ _ _ h => h) (Or.inl ⟨by rfl, fun W => ?_⟩) ?_
            rotate_left 1
            · (go_simp <;> (try go_bits) <;> with_reducible rfl)
            simp only [Act.put, List.setIfInBounds_toArray, List.set_cons_zero, List.set_cons_succ]
            refine wpAnyP_pure (v := ?_) 45 (at_toArray rfl) (by kernel_rfl) (by kernel_rfl) (by kernel_rfl) (fun _ _ _ h => h) (Or.inl ⟨by rfl, fun W => ?_⟩) ?_
            rotate_left 1
            · (go_simp <;> (try go_bits) <;> with_reducible rfl)
            simp only [Act.put, List.setIfInBounds_toArray, List.set_cons_zero, List.set_cons_succ]
            refine wpAnyP_pure (v := ?_) 46 (at_toArray rfl) (by kernel_rfl) (by kernel_rfl) (by kernel_rfl) (fun _ _ _ h => h) (Or.inl ⟨by rfl, fun W => ?_⟩) ?_
            rotate_left 1
            · (go_simp <;> (try go_bits) <;> with_reducible rfl)
            simp only [Act.put, List.setIfInBounds_toArray, List.set_cons_zero, List.set_cons_succ]
            refine wpAnyP_load (v := ?_) 47 (by kernel_rfl) (at_toArray rfl) (by kernel_rfl) (by kernel_rfl) (by kernel_rfl) (fun _ _ _ h => h) (by first | assumption | rfl) (Or.inl ⟨by rfl, fun W hS => ?_⟩) ?_
            rotate_left 1
            · (obtain ⟨_, _, _, _, _, _⟩ := hS; go_simp <;> (try go_bits) <;> with_reducible rfl)
            simp only [Act.put, List.setIfInBounds_toArray, List.set_cons_zero, List.set_cons_succ]
            refine wpAnyP_pure (v := ?_) 49 (at_toArray rfl) (by kernel_rfl) (by kernel_rfl) (by kernel_rfl) (fun _ _ _ h => h) (Or.inl ⟨by rfl, fun W => ?_⟩) ?_
            rotate_left 1
            · (go_simp <;> (try go_bits) <;> with_reducible rfl)
            simp only [Act.put, List.setIfInBounds_toArray, List.set_cons_zero, List.set_cons_succ]
            refine wpAnyP_pure (v := ?_) 50 (at_toArray rfl) (by kernel_rfl) (by kernel_rfl) (by kernel_rfl) (fun _ _ _ h => h) (Or.inl ⟨by rfl, fun W => ?_⟩) ?_
            rotate_left 1
            · (go_simp <;> (try go_bits) <;> with_reducible rfl)
            simp only [Act.put, List.setIfInBounds_toArray, List.set_cons_zero, List.set_cons_succ]
            refine wpAnyP_pure (v := ?_) 51 (at_toArray rfl) (by kernel_rfl) (by kernel_rfl) (by kernel_rfl) (fun _ _ _ h => h) (Or.inl ⟨by rfl, fun W => ?_⟩) ?_
            rotate_left 1
            · (go_simp <;> (try go_bits) <;> with_reducible rfl)
            simp only [Act.put, List.setIfInBounds_toArray, List.set_cons_zero, List.set_cons_succ]
            refine wpAnyP_load (v := ?_) 52 (by kernel_rfl) (at_toArray rfl) (by kernel_rfl) (by kernel_rfl) (by kernel_rfl) (fun _ _ _ h => h) (by first | assumption | rfl) (Or.inl ⟨by rfl, fun W hS => ?_⟩) ?_
            rotate_left 1
            · (obtain ⟨_, _, _, _, _, _⟩ := hS; go_simp <;> (try go_bits) <;> with_reducible rfl)
            simp only [Act.put, List.setIfInBounds_toArray, List.set_cons_zero, List.set_cons_succ]
            refine wpAnyP_oneG 48 (at_toArray rfl) (by kernel_rfl) (by rfl) (fun K hK => ?_)
            go_wp2_with fail
            refine (HCS.out _ HT9.out).mono ?_
            rintro e w9 ⟨rfl, hb9⟩
            have HT10 := Lib.hid (HT9.out.below hb9)
            have HB10 := Lib.hid (HB9.out.trans (Below.up hb9 HT9.out.pair.size))
            have hS' := six_below hS hb9
            clear hb9 HT9 HB9 hS
            have HT9 := HT10
            have HB9 := HB10
            have hS := hS'
            clear HT10 HB10 hS'
            go_wp2_with fail
            refine hK.out _ _ (fun _ _ => hS) ?_
            clear hK
            refine wpAnyP_oneG 53 (at_toArray rfl) (by kernel_rfl) (by rfl) (fun K hK => ?_)
            go_wp2_with fail
            refine (HRS.out _ HT9.out).mono ?_
            rintro e w9 ⟨rfl, hb9⟩
            have HT10 := Lib.hid (HT9.out.below hb9)
            have HB10 := Lib.hid (HB9.out.trans (Below.up hb9 HT9.out.pair.size))
            have hS' := six_below hS hb9
            clear hb9 HT9 HB9 hS
            have HT9 := HT10
            have HB9 := HB10
            have hS := hS'
            clear HT10 HB10 hS'
            go_wp2_with fail
            refine hK.out _ _ (fun _ _ => hS) ?_
            clear hK
            refine wpAnyP_pure (v := ?_) 54 (at_toArray rfl) (by kernel_rfl) (by kernel_rfl) (by kernel_rfl) (fun _ _ _ h => h) (Or.inl ⟨by rfl, fun W => ?_⟩) ?_
            rotate_left 1
            · (go_simp <;> (try go_bits) <;> with_reducible rfl)
            simp only [Act.put, List.setIfInBounds_toArray, List.set_cons_zero, List.set_cons_succ]
            refine wpAnyP_pure (v := ?_) 55 (at_toArray rfl) (by kernel_rfl) (by kernel_rfl) (by kernel_rfl) (fun _ _ _ h => h) (Or.inl ⟨by rfl, fun W => ?_⟩) ?_
            rotate_left 1
            · (go_simp <;> (try go_bits) <;> with_reducible rfl)
            simp only [Act.put, List.setIfInBounds_toArray, List.set_cons_zero, List.set_cons_succ]
            refine wpAnyP_pure (v := ?_) 56 (at_toArray rfl) (by kernel_rfl) (by kernel_rfl) (by kernel_rfl) (fun _ _ _ h => h) (Or.inl ⟨by rfl, fun W => ?_⟩) ?_
            rotate_left 1
            · (go_simp <;> (try go_bits) <;> with_reducible rfl)
            simp only [Act.put, List.setIfInBounds_toArray, List.set_cons_zero, List.set_cons_succ]
            refine wpAnyP_pure (v := ?_) 57 (at_toArray rfl) (by kernel_rfl) (by kernel_rfl) (by kernel_rfl) (fun _ _ _ h => h) (Or.inl ⟨by rfl, fun W => ?_⟩) ?_
            rotate_left 1
            · (go_simp <;> (try go_bits) <;> with_reducible rfl)
            simp only [Act.put, List.setIfInBounds_toArray, List.set_cons_zero, List.set_cons_succ]
            refine wpAnyP_pure (v := ?_) 58 (at_toArray rfl) (by kernel_rfl) (by kernel_rfl) (by kernel_rfl) (fun _ _ _ h => h) (Or.inl ⟨by rfl, fun W => ?_⟩) ?_
            rotate_left 1
            · (go_simp <;> (try go_bits) <;> with_reducible rfl)
            simp only [Act.put, List.setIfInBounds_toArray, List.set_cons_zero, List.set_cons_succ]
            refine wpAnyP_pure (v := ?_) 59 (at_toArray rfl) (by kernel_rfl) (by kernel_rfl) (by kernel_rfl) (fun _ _ _ h => h) (Or.inl ⟨by rfl, fun W => ?_⟩) ?_
            rotate_left 1
            · (go_simp <;> (try go_bits) <;> with_reducible rfl)
            simp only [Act.put, List.setIfInBounds_toArray, List.set_cons_zero, List.set_cons_succ]
            refine wpAnyP_load (v := ?_) 60 (by kernel_rfl) (at_toArray rfl) (by kernel_rfl) (by kernel_rfl) (by kernel_rfl) (fun _ _ _ h => h) (by first | assumption | rfl) (Or.inl ⟨by rfl, fun W hS => ?_⟩) ?_
            rotate_left 1
            · (obtain ⟨_, _, _, _, _, _⟩ := hS; go_simp <;> (try go_bits) <;> with_reducible rfl)
            simp only [Act.put, List.setIfInBounds_toArray, List.set_cons_zero, List.set_cons_succ]
            refine wpAnyP_pure (v := ?_) 62 (at_toArray rfl) (by kernel_rfl) (by kernel_rfl) (by kernel_rfl) (fun _ _ _ h => h) (Or.inl ⟨by rfl, fun W => ?_⟩) ?_
            rotate_left 1
            · (go_simp <;> (try go_bits) <;> with_reducible rfl)
            simp only [Act.put, List.setIfInBounds_toArray, List.set_cons_zero, List.set_cons_succ]
            refine wpAnyP_pure (v := ?_) 63 (at_toArray rfl) (by kernel_rfl) (by kernel_rfl) (by kernel_rfl) (fun _ _ _ h => h) (Or.inl ⟨by rfl, fun W => ?_⟩) ?_
            rotate_left 1
            · (go_simp <;> (try go_bits) <;> with_reducible rfl)
            simp only [Act.put, List.setIfInBounds_toArray, List.set_cons_zero, List.set_cons_succ]
            refine wpAnyP_pure (v := ?_) 64 (at_toArray rfl) (by kernel_rfl) (by kernel_rfl) (by kernel_rfl) (fun _ _ _ h => h) (Or.inl ⟨by rfl, fun W => ?_⟩) ?_
            rotate_left 1
            · (go_simp <;> (try go_bits) <;> with_reducible rfl)
            simp only [Act.put, List.setIfInBounds_toArray, List.set_cons_zero, List.set_cons_succ]
            refine wpAnyP_load (v := ?_) 65 (by kernel_rfl) (at_toArray rfl) (by kernel_rfl) (by kernel_rfl) (by kernel_rfl) (fun _ _ _ h => h) (by first | assumption | rfl) (Or.inl ⟨by rfl, fun W hS => ?_⟩) ?_
            rotate_left 1
            · (obtain ⟨_, _, _, _, _, _⟩ := hS; go_simp <;> (try go_bits) <;> with_reducible rfl)
            simp only [Act.put, List.setIfInBounds_toArray, List.set_cons_zero, List.set_cons_succ]
            refine wpAnyP_oneG 61 (at_toArray rfl) (by kernel_rfl) (by rfl) (fun K hK => ?_)
            go_wp2_with fail
            refine (HCO.out _ HT9.out).mono ?_
            rintro e w9 ⟨rfl, hb9⟩
            have HT10 := Lib.hid (HT9.out.below hb9)
            have HB10 := Lib.hid (HB9.out.trans (Below.up hb9 HT9.out.pair.size))
            have hS' := six_below hS hb9
            clear hb9 HT9 HB9 hS
            have HT9 := HT10
            have HB9 := HB10
            have hS := hS'
            clear HT10 HB10 hS'
            go_wp2_with fail
            refine hK.out _ _ (fun _ _ => hS) ?_
            clear hK
            refine wpAnyP_oneG 66 (at_toArray rfl) (by kernel_rfl) (by rfl) (fun K hK => ?_)
            go_wp2_with fail
            refine (HRO.out _ HT9.out).mono ?_
            rintro e w9 ⟨rfl, hb9⟩
            have HT10 := Lib.hid (HT9.out.below hb9)
            have HB10 := Lib.hid (HB9.out.trans (Below.up hb9 HT9.out.pair.size))
            have hS' := six_below hS hb9
            clear hb9 HT9 HB9 hS
            have HT9 := HT10
            have HB9 := HB10
            have hS := hS'
            clear HT10 HB10 hS'
            go_wp2_with fail
            refine hK.out _ _ (fun _ _ => hS) ?_
            clear hK
            refine wpAnyP_pure (v := ?_) 67 (at_toArray rfl) (by kernel_rfl) (by kernel_rfl) (by kernel_rfl) (fun _ _ _ h => h) (Or.inl ⟨by rfl, fun W => ?_⟩) ?_
            rotate_left 1
            · (go_simp <;> (try go_bits) <;> with_reducible rfl)
            simp only [Act.put, List.setIfInBounds_toArray, List.set_cons_zero, List.set_cons_succ]
            refine wpAnyP_pure (v := ?_) 68 (at_toArray rfl) (by kernel_rfl) (by kernel_rfl) (by kernel_rfl) (fun _ _ _ h => h) (Or.inl ⟨by rfl, fun W => ?_⟩) ?_
            rotate_left 1
            · (go_simp <;> (try go_bits) <;> with_reducible rfl)
            simp only [Act.put, List.setIfInBounds_toArray, List.set_cons_zero, List.set_cons_succ]
            refine wpAnyP_pure (v := ?_) 69 (at_toArray rfl) (by kernel_rfl) (by kernel_rfl) (by kernel_rfl) (fun _ _ _ h => h) (Or.inl ⟨by rfl, fun W => ?_⟩) ?_
            rotate_left 1
            · (go_simp <;> (try go_bits) <;> with_reducible rfl)
            simp only [Act.put, List.setIfInBounds_toArray, List.set_cons_zero, List.set_cons_succ]
            refine wpAnyP_done (by kernel_rfl) ?_ _
            go_wp2_with fail
            go_roundw
            case rel => exact ⟨k + 1, by omega, by go_num, HB9, T7, F7, G7, _, HT9⟩
            case measure => simp [intOf]; omega
      · obtain rfl : k = m := by omega
        have l1 : ¬ (k : Int) < (k : Int) := by omega
        go_wp2_with fail
        refine (jlives_true _).mono ?_
        rintro e w6 ⟨rfl, hb⟩
        have HB6 := Lib.hid (HBL.out.trans (Below.up hb HT.out.pair.size))
        clear hb
        go_wp2_with fail
        go_ret
        exact ⟨rfl, HB6.out⟩

end Go.Proofs.YtdhafdejionefaaGreat
