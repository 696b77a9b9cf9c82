/- Parts: The acts of JournalPlays, opened; the walk of light. .. A phased region: a load that all of the second phase waits for, directly or through others of it. -/
import Derived.Test.YtdhafdejionefaaGreatM19
import Derived.Test.YtdhafdejionefaaGreatM08
/- The acts of JournalPlays, opened; the walk of light. -/
namespace Go.Proofs.YtdhafdejionefaaGreat
set_option linter.unusedVariables false
set_option linter.unusedSimpArgs false
open Go.RowKit Go.ChangeShapes Go.WideShapes Go.Deep

/-- An act of JournalPlays, as it came in. -/
structure JActV where
  kind : Int
  n : Int
  keep : Int
  r : RecV
  A2 : Option Addr
  rs : List RecV
  c2 : Nat
def JActV.cells (a : JActV) : List Value := [.int .i64 a.kind, .slice a.r.A a.r.len a.r.cap, .slice a.A2 a.rs.length a.c2, .int .i64 a.n, .int .i64 a.keep]
structure JActV.ok (w : World) (a : JActV) : Prop where
  n : (Lit.int .i64 a.n).wf = true
  row : IsRow .u8 w a.r.A a.r.len a.r.cap a.r.zs
  recs : RecsR w a.A2 a.rs
  long : a.rs.length ≤ maxLen
theorem open_jact {H : Type} {enc : TypeId × Value → H} {w : World} {base : Nat} {held : Bool} {fuel : Nat} {cs : List Value} {x : DataW H × List MemPlace}
    (h : DataW.trod enc Tryz.prog w base (fun _ => true) held fuel 38 cs = some x) : ∃ a : JActV, cs = a.cells ∧ a.ok w := by
  obtain ⟨hl, n, hf⟩ := struct_cells Tryz.underlying38 (by kernel_rfl) (by kernel_rfl) h
  match cs, hl with
  | [v0, v1, v2, v3, v4], _ =>
    obtain ⟨u0, y0, e0, t0⟩ := hf 0 _ rfl
    obtain ⟨u1, y1, e1, t1⟩ := hf 1 _ rfl
    obtain ⟨u2, y2, e2, t2⟩ := hf 2 _ rfl
    obtain ⟨u3, y3, e3, t3⟩ := hf 3 _ rfl
    obtain ⟨u4, y4, e4, t4⟩ := hf 4 _ rfl
    cases e0; cases e1; cases e2; cases e3; cases e4
    obtain ⟨a0, rfl, w0⟩ := open_num Tryz.underlying3 t0
    obtain ⟨A, l, c, zs, rfl, hr⟩ := open_row Tryz.underlying35 Tryz.underlying5 (by kernel_rfl) t1
    obtain ⟨A2, rs, c2, rfl, hr2, hr3, hr4⟩ := open_recs t2
    obtain ⟨a3, rfl, w3⟩ := open_num Tryz.underlying3 t3
    obtain ⟨a4, rfl, w4⟩ := open_num Tryz.underlying3 t4
    exact ⟨⟨a0, a3, a4, ⟨A, l, c, zs⟩, A2, rs, c2⟩, rfl, w3, hr, hr4, Nat.le_trans hr2 hr3⟩
/-- A row of acts. -/
structure JActsR (w : World) (A : Option Addr) (xs : List JActV) : Prop where
  ok : ∀ (i : Nat) (a : JActV), xs[i]? = some a → a.ok w
  cell : ∀ (i : Nat) (a : JActV), xs[i]? = some a → ∃ b off, A = some ⟨b, off, none⟩ ∧ b < w.heap.size ∧ ∀ j, j < 5 → w.cell? ⟨b, off + i * 5 + j, none⟩ = a.cells[j]?
theorem open_jacts {H : Type} {enc : TypeId × Value → H} {w : World} {base : Nat} {held : Bool} {fuel : Nat} {v : Value} {x : DataW H × List MemPlace}
    (h : DataW.trod enc Tryz.prog w base (fun _ => true) held fuel 22 [v] = some x) : ∃ A xs c, v = .slice A xs.length c ∧ xs.length ≤ c ∧ c ≤ maxLen ∧ JActsR w A xs := by
  obtain ⟨A, len, cap, hv, hl, hm, _, hr⟩ := open_rows Tryz.underlying22 (by decide +kernel) h
  have hC : Tryz.prog.cellsOf 38 = 5 := by kernel_rfl
  rw [hC] at hr
  have : ∃ f : Nat → JActV, ∀ i, i < len → (f i).ok w ∧ ∃ b off, A = some ⟨b, off, none⟩ ∧ b < w.heap.size ∧ ∀ j, j < 5 → w.cell? ⟨b, off + i * 5 + j, none⟩ = (f i).cells[j]? := by
    classical
    have hex : ∀ i, i < len → ∃ a : JActV, a.ok w ∧ ∃ b off, A = some ⟨b, off, none⟩ ∧ b < w.heap.size ∧ ∀ j, j < 5 → w.cell? ⟨b, off + i * 5 + j, none⟩ = a.cells[j]? := fun i hi => by
      obtain ⟨b, off, cs', n, y, h1, h2, _, h3, h4⟩ := hr i hi
      obtain ⟨a, rfl, ha⟩ := open_jact h4
      exact ⟨a, ha, b, off, h1, h2, h3⟩
    refine ⟨fun i => if hi : i < len then Classical.choose (hex i hi) else ⟨0, 0, 0, ⟨none, 0, 0, []⟩, none, [], 0⟩, fun i hi => ?_⟩
    simp only [dif_pos hi]
    exact Classical.choose_spec (hex i hi)
  obtain ⟨f, hf⟩ := this
  simp only [List.cons.injEq, and_true] at hv
  have hget : ∀ i a, ((List.range len).map f)[i]? = some a → i < len ∧ f i = a := fun i a hi => by
    simp only [List.getElem?_map, Option.map_eq_some_iff, List.getElem?_range] at hi
    obtain ⟨j, hj, rfl⟩ := hi
    by_cases hil : i < len
    · simp [hil] at hj; subst hj; exact ⟨hil, rfl⟩
    · simp [hil] at hj
  refine ⟨A, (List.range len).map f, cap, by simpa using hv, by simpa using hl, hm, ⟨fun i a hi => ?_, fun i a hi => ?_⟩⟩
  · obtain ⟨hil, rfl⟩ := hget i a hi; exact (hf i hil).1
  · obtain ⟨hil, rfl⟩ := hget i a hi; exact (hf i hil).2
theorem JActV.ok.below {w w' : World} {a : JActV} (h : a.ok w) (hb : Below w.heap.size w w') : a.ok w' := ⟨h.n, isrow_below h.row hb, h.recs.below hb, h.long⟩
theorem JActsR.below {w w' : World} {A : Option Addr} {xs : List JActV} (h : JActsR w A xs) (hb : Below w.heap.size w w') : JActsR w' A xs := by
  refine ⟨fun i a hi => (h.ok i a hi).below hb, fun i a hi => ?_⟩
  obtain ⟨b, off, h1, h2, h3⟩ := h.cell i a hi
  refine ⟨b, off, h1, Nat.lt_of_lt_of_le h2 hb.size, fun j hj => ?_⟩
  rw [← h3 j hj]
  exact hb.cell (p := ⟨b, off + i * 5 + j, none⟩) h2
/-- A row of one record. -/
theorem RecsR.one {w : World} {a : RecV} (h : IsRow .u8 w a.A a.len a.cap a.zs) (o : Obj) (ho : o = .cells #[.slice a.A a.len a.cap] 35) : RecsR (w.alloc o) (some ⟨w.heap.size, 0, none⟩) [a] := by
  subst ho
  refine ⟨fun i x hi => ?_, fun i x hi => ?_⟩
  · have hl := (List.getElem?_eq_some_iff.1 hi).1
    have h0 : i = 0 := by simpa using hl
    subst h0
    obtain rfl : a = x := by simpa using hi
    exact isrow_below h ((Below.refl _ _).alloc (Nat.le_refl _) _)
  · have hl := (List.getElem?_eq_some_iff.1 hi).1
    have h0 : i = 0 := by simpa using hl
    subst h0
    obtain rfl : a = x := by simpa using hi
    exact ⟨w.heap.size, 0, rfl, by simp, (Blk.new w #[.slice a.A a.len a.cap] 35).cell 0⟩
/-- What light lets in. -/
def JActV.small (a : JActV) : Prop := a.rs.length ≤ 100 ∧ Light8 [a.r] ∧ Light8 a.rs
def LightJPost (xs : List JActV) (w : World) (e : Ending) (w' : World) : Prop := ∃ b, e = .returned (.bool b) ∧ (b = true → ∀ a ∈ xs, a.small) ∧ Below w.heap.size w w'
theorem addJ_bound (n m : Int) (h0 : 0 ≤ n) (hn : n ≤ 8001) (hm : 0 ≤ m) : 0 ≤ addJ n m 8000 ∧ addJ n m 8000 ≤ 8001 := by
  unfold addJ
  omega
set_option maxRecDepth 100000 in
set_option maxHeartbeats 8000000 in
theorem lightJ_any (A : Option Addr) (c : Nat) (xs : List JActV) (w : World) (h : JActsR w A xs) (hl : xs.length ≤ 9223372036854775807) :
    Calls Tryz.prog 4 #[.slice A xs.length c] w (LightJPost xs w) := by
  obtain ⟨m, hm⟩ : ∃ m, m = xs.length := ⟨_, rfl⟩
  rw [← hm]
  rw [← hm] at hl
  have H := Lib.hid h
  have HM := Lib.hid hm
  clear h hm
  go_enter Tryz.func4, Tryz.ntmps4
  by_cases h100 : 100 < m
  · go_wp2_with fail
    go_ret
    exact ⟨false, rfl, fun h => (by cases h), Below.refl _ _⟩
  · go_wp2_with fail
    go_loopw [3, 13] (fun n i wr => ∃ k : Nat, ∃ s : Int, k ≤ m ∧ i = .int .i64 k ∧ n = .int .i64 s ∧ 0 ≤ s ∧ s ≤ 8001 ∧ Hid (Below w.heap.size w wr) ∧ Hid (∀ a ∈ xs.take k, a.small)) (fun _ i _ => m - (intOf i).toNat)
    case atStart => exact ⟨0, 0, Nat.zero_le _, rfl, rfl, by omega, by omega, Lib.hid (Below.refl _ _), Lib.hid fun a ha => by simp at ha⟩
    case round =>
      obtain ⟨k, s, hk, rfl, rfl, hs0, hs1, HB, HS⟩ := hrel
      by_cases hlt : k < m
      · obtain ⟨a, ha⟩ : ∃ a, xs[k]? = some a := ⟨_, List.getElem?_eq_getElem (by rw [← HM.out]; exact hlt)⟩
        have H2 := H.out.below HB.out
        have HOK := Lib.hid (H2.ok k a ha)
        obtain ⟨b, off, rfl, hlb, hc⟩ := H2.cell k a ha
        obtain ⟨⟨kind, n, keep, ⟨rA, rl, rc, rz⟩, A2, rs, c2⟩, rfl⟩ : ∃ a', a' = a := ⟨_, rfl⟩
        obtain ⟨L, hL⟩ : ∃ L, L = rs.length := ⟨_, rfl⟩
        have hc0 : wr.cell? ⟨b, off + k * 5, none⟩ = some (.int .i64 kind) := hc 0 (by omega)
        have hc1 : wr.cell? ⟨b, off + k * 5 + 1, none⟩ = some (.slice rA rl rc) := hc 1 (by omega)
        have hc2 : wr.cell? ⟨b, off + k * 5 + 2, none⟩ = some (.slice A2 L c2) := by rw [hL]; exact hc 2 (by omega)
        have hc3 : wr.cell? ⟨b, off + k * 5 + 3, none⟩ = some (.int .i64 n) := hc 3 (by omega)
        have hc4 : wr.cell? ⟨b, off + k * 5 + 4, none⟩ = some (.int .i64 keep) := hc 4 (by omega)
        have l1 : (k : Int) < (m : Int) := by omega
        have HA := Lib.hid ha
        have HL := Lib.hid hL
        have hba : Below wr.heap.size wr (wr.alloc (.cells #[.int .i64 kind, .slice rA rl rc, .slice A2 L c2, .int .i64 n, .int .i64 keep] 38)) := (Below.refl _ _).alloc (Nat.le_refl _) _
        have HBK := Lib.hid (Blk.new wr #[.int .i64 kind, .slice rA rl rc, .slice A2 L c2, .int .i64 n, .int .i64 keep] 38)
        have HOK1 := Lib.hid (HOK.out.below hba)
        have HB1 := Lib.hid (HB.out.trans (Below.up hba HB.out.size))
        have hll : L ≤ 9223372036854775807 := by rw [hL]; have := HOK.out.long; simp only [maxLen] at this; omega
        clear hc ha hL H2 HOK hba HB
        by_cases hL100 : 100 < L
        · go_wp2_with fail
          go_ret
          exact ⟨false, rfl, fun h => (by cases h), HB1.out⟩
        · go_wp2_with fail
          have hone := RecsR.one (w := wr.alloc (.cells #[.int .i64 kind, .slice rA rl rc, .slice A2 L c2, .int .i64 n, .int .i64 keep] 38)) (a := ⟨rA, rl, rc, rz⟩) HOK1.out.row _ rfl
          rw [show (wr.alloc (.cells #[.int .i64 kind, .slice rA rl rc, .slice A2 L c2, .int .i64 n, .int .i64 keep] 38)).heap.size = wr.heap.size + 1 by simp] at hone
          refine (light8_any _ 1 [⟨rA, rl, rc, rz⟩] _ hone (by simp)).mono ?_
          rintro e w5 ⟨b1, rfl, hb1, hb5⟩
          have hb5' : Below (wr.alloc (.cells #[.int .i64 kind, .slice rA rl rc, .slice A2 L c2, .int .i64 n, .int .i64 keep] 38)).heap.size (wr.alloc (.cells #[.int .i64 kind, .slice rA rl rc, .slice A2 L c2, .int .i64 n, .int .i64 keep] 38)) w5 := ((Below.refl _ _).alloc (Nat.le_refl _) _).trans (Below.up hb5 (by simp))
          have hbk := HBK.out.below hb5'
          obtain ⟨lb, hlb⟩ : ∃ lb, lb = wr.heap.size := ⟨_, rfl⟩
          rw [← hlb] at hbk ⊢
          have d1 : w5.cell? ⟨lb, 1, none⟩ = some (.slice rA rl rc) := hbk.cell 1
          have d2 : w5.cell? ⟨lb, 2, none⟩ = some (.slice A2 L c2) := hbk.cell 2
          have HBK5 := Lib.hid hbk
          have HOK5 := Lib.hid (HOK1.out.below hb5')
          have HB5 := Lib.hid (HB1.out.trans (Below.up hb5' HB1.out.size))
          have HL1 := Lib.hid hb1
          clear hone hb1 hb5 hb5' hbk hlb hc0 hc1 hc2 hc3 hc4 HBK HOK1 HB1
          cases b1 with
          | false =>
            go_wp2_with fail
            go_ret
            exact ⟨false, rfl, fun h => (by cases h), HB5.out⟩
          | true =>
            have HLA := Lib.hid (HL1.out rfl)
            clear HL1
            go_wp2_with fail
            rw [HL.out]
            refine (light8_any A2 c2 rs _ HOK5.out.recs (by rw [← HL.out]; omega)).mono ?_
            rintro e w6 ⟨b2, rfl, hb2, hb6⟩
            rw [← HL.out]
            have hbk := HBK5.out.below hb6
            have e1 : w6.cell? ⟨lb, 1, none⟩ = some (.slice rA rl rc) := hbk.cell 1
            have e2 : w6.cell? ⟨lb, 2, none⟩ = some (.slice A2 L c2) := hbk.cell 2
            have HBK6 := Lib.hid hbk
            have HOK6 := Lib.hid (HOK5.out.below hb6)
            have HB6 := Lib.hid (HB5.out.trans (Below.up hb6 HB5.out.size))
            have HL2 := Lib.hid hb2
            clear hb2 hb6 hbk d1 d2 HBK5 HOK5 HB5
            cases b2 with
            | false =>
              go_wp2_with fail
              go_ret
              exact ⟨false, rfl, fun h => (by cases h), HB6.out⟩
            | true =>
              have hrl : rl ≤ 8000 := HLA.out.at 0 ⟨rA, rl, rc, rz⟩ rfl
              have HSM : Hid (∀ a ∈ xs.take (k + 1), a.small) := Lib.hid fun x hx => by
                rw [take_snoc' xs k _ HA.out] at hx
                rcases List.mem_append.1 hx with hx | hx
                · exact HS.out x hx
                · obtain rfl := List.mem_singleton.1 hx
                  exact ⟨by show rs.length ≤ 100; rw [← HL.out]; omega, HLA.out, HL2.out rfl⟩
              obtain ⟨q, hq⟩ : ∃ q : Int, q = 20 + 20 * (L : Int) + (rl : Int) := ⟨_, rfl⟩
              obtain ⟨s2, hs2⟩ : ∃ s2, s2 = addJ s q 8000 := ⟨_, rfl⟩
              have hbd := addJ_bound s q hs0 hs1 (by omega)
              rw [← hs2] at hbd
              obtain ⟨hs20, hs21⟩ := hbd
              have HQ := Lib.hid hq
              have HS2 := Lib.hid hs2
              clear hq hs2 HS HL2
              go_wp2_with fail
              rw [← HQ.out]
              refine (addJ_any s q 8000 s2 HS2.out w6 hs0 (by omega) (by have := HQ.out; omega) (by omega) (by omega)).mono ?_
              rintro e w7 ⟨rfl, n7, hw7⟩
              have hb7 : Below w6.heap.size w6 w7 := by rw [hw7]; exact ⟨rfl, rfl, rfl, Nat.le_refl _, fun _ _ => rfl⟩
              have hbk := HBK6.out.below hb7
              have f2 : w7.cell? ⟨lb, 2, none⟩ = some (.slice A2 L c2) := hbk.cell 2
              have HOK7 := Lib.hid (HOK6.out.recs.below hb7)
              have HB7 := Lib.hid (HB6.out.trans (Below.up hb7 HB6.out.size))
              clear hb7 hw7 hbk e1 e2 HBK6 HOK6 HB6 HQ HS2 HLA
              go_wp2_with fail
              go_loopw [3, 48] (fun n i wz => ∃ k2 : Nat, ∃ s3 : Int, k2 ≤ L ∧ i = .int .i64 k2 ∧ n = .int .i64 s3 ∧ 0 ≤ s3 ∧ s3 ≤ 8001 ∧ Hid (Below w7.heap.size w7 wz)) (fun _ i _ => L - (intOf i).toNat)
              case atStart => exact ⟨0, s2, Nat.zero_le _, rfl, rfl, by omega, by omega, Lib.hid (Below.refl _ _)⟩
              case round =>
                obtain ⟨k2, s3, hk2, rfl, rfl, hs30, hs31, HBz⟩ := hrel
                by_cases hlt2 : k2 < L
                · obtain ⟨x, hx⟩ : ∃ x, rs[k2]? = some x := ⟨_, List.getElem?_eq_getElem (by rw [← HL.out]; exact hlt2)⟩
                  obtain ⟨b2, off2, rfl, hlb2, hc2⟩ := (HOK7.out.below HBz.out).cell k2 x hx
                  obtain ⟨xA, xl, xc, xz⟩ := x
                  simp only at hc2
                  obtain ⟨s4, hs4⟩ : ∃ s4, s4 = addJ s3 (xl : Int) 8000 := ⟨_, rfl⟩
                  have hbd := addJ_bound s3 (xl : Int) hs30 hs31 (by omega)
                  rw [← hs4] at hbd
                  obtain ⟨hs40, hs41⟩ := hbd
                  have HS4 := Lib.hid hs4
                  have l2 : (k2 : Int) < (L : Int) := by omega
                  clear hs4 hx f2
                  go_wp2_with fail
                  refine (addJ_any s3 (xl : Int) 8000 s4 HS4.out _ hs30 (by omega) (by omega) (by omega) (by omega)).mono ?_
                  rintro e w8 ⟨rfl, n8, hw8⟩
                  have hb8 : Below wr.heap.size wr w8 := by rw [hw8]; exact ⟨rfl, rfl, rfl, Nat.le_refl _, fun _ _ => rfl⟩
                  have HB8 := Lib.hid (HBz.out.trans (Below.up hb8 HBz.out.size))
                  clear hb8 hw8 HBz hc2 HS4
                  go_wp2_with fail
                  go_roundw
                  case rel => exact ⟨k2 + 1, s4, by omega, by go_num, rfl, hs40, hs41, HB8⟩
                  case measure => simp [intOf]; omega
                · obtain rfl : k2 = L := by omega
                  have l2 : ¬ (k2 : Int) < (k2 : Int) := by omega
                  have HB8 := Lib.hid (HB7.out.trans (Below.up HBz.out HB7.out.size))
                  clear f2
                  go_wp2_with fail
                  go_roundw
                  case rel => exact ⟨k + 1, s3, by omega, by go_num, rfl, hs30, hs31, HB8, HSM⟩
                  case measure => simp [intOf]; omega
      · obtain rfl : k = m := by omega
        have l1 : ¬ (k : Int) < (k : Int) := by omega
        by_cases hs : s ≤ 8000
        · go_wp2_with fail
          go_ret
          refine ⟨true, rfl, fun _ => ?_, HB.out⟩
          have := HS.out
          rw [HM.out, List.take_length] at this
          exact this
        · go_wp2_with fail
          go_ret
          exact ⟨false, rfl, fun h => (by cases h), HB.out⟩

end Go.Proofs.YtdhafdejionefaaGreat

/- A phased region: a load that all of the second phase waits for, directly or through others of it. -/
namespace Go.Proofs.YtdhafdejionefaaGreat
set_option linter.unusedVariables false
set_option linter.unusedSimpArgs false

section
variable {P : Program} {ops : Array Oper} {Q : Exit → Act → World → Prop} {md : Region.Mode} {S : World → Prop} {m : Nat}
/-- Each operation from m on waits for number i, or for another one from m on. -/
def depends (md : Region.Mode) (ops : Array Oper) (m i : Nat) : Bool :=
  (List.range ops.size).all fun j => decide (j < m) || ((ops[j]?).map fun o => o.after.any fun e => Region.binds md e && (e.on == i || decide (m ≤ e.on))).getD true
theorem depends_spec {i : Nat} (h : depends md ops m i = true) {j : Nat} {oj : Oper} (hj : ops[j]? = some oj) (hjm : ¬ j < m) : ∃ e ∈ oj.after, Region.binds md e = true ∧ (e.on = i ∨ m ≤ e.on) := by
  have hlt := (Array.getElem?_eq_some_iff.1 hj).1
  have h2 := List.all_eq_true.1 h j (List.mem_range.2 hlt)
  simp only [hjm, decide_false, Bool.false_or] at h2
  rw [hj] at h2
  simp only [Option.map_some, Option.getD_some] at h2
  rw [← Array.any_toList, List.any_eq_true] at h2
  obtain ⟨e, he, h3⟩ := h2
  simp only [Bool.and_eq_true, Bool.or_eq_true, beq_iff_eq, decide_eq_true_eq] at h3
  exact ⟨e, by simpa using he, h3.1, h3.2⟩
/-- None from m on has run. -/
def unrun (ops : Array Oper) (m : Nat) (listed : Array Bool) : Bool := (List.range ops.size).all fun j => decide (j < m) || !(listed.getD j false)
theorem unrun_spec {listed : Array Bool} (h : unrun ops m listed = true) (hs : listed.size = ops.size) : ∀ j, m ≤ j → listed.getD j false = false := fun j hj => by
  rcases Nat.lt_or_ge j ops.size with hlt | hge
  · have h2 := List.all_eq_true.1 h j (List.mem_range.2 hlt)
    have : ¬ j < m := by omega
    simpa [this] using h2
  · simp [Array.getD_eq_getD_getElem?, Array.getElem?_eq_none (show listed.size ≤ j by omega)]
theorem getD_set_false {listed : Array Bool} {j k : Nat} (h : j ≠ k) : (listed.setIfInBounds j true).getD k false = listed.getD k false := getD_set_ne false h
theorem wpAnyP_firstD {i : Nat} {oi : Oper} {v : Value} (hph : depends md ops m i = true) (him : i < m) (hi : ops[i]? = some oi) (hsel : ∀ (j : Nat) (o : Oper) cs b, ops[j]? = some o → o.op ≠ .select cs b)
    (hQ : ∀ c a w, Q (.panic c) (a.put oi.dst v) w → Q (.panic c) a w) :
    ∀ (fuel : Nat) (listed : Array Bool) (a : Act) (w : World),
      (∀ j oj, ops[j]? = some oj → j ≠ i → listed.getD j true = false → (∀ e ∈ oj.after, Region.binds md e = true → e.on ≠ i) → oi.apart ops oj = true) →
      (∀ j, m ≤ j → listed.getD j false = false) →
      i ∈ Region.ready md ops listed → YieldsIf P ops S oi v a → S w →
      wpAnyP P md ops Q S m fuel (listed.setIfInBounds i true) (a.put oi.dst v) w → wpAnyP P md ops Q S m (fuel + 1) listed a w := by
  intro fuel
  induction fuel with
  | zero =>
    intro listed a w _ _ hr hy hS H
    refine ⟨fun h => (by rw [h] at hr; cases hr), fun j hj => ?_⟩
    by_cases hji : j = i
    · subst hji; exact hy.wpOp hi hS ⟨fun _ h => h, H⟩
    · have := ready_mono hj hji
      rw [H.1] at this
      cases this
  | succ fuel ih =>
    intro listed a w hfree hun hr hy hS H
    refine ⟨fun h => (by rw [h] at hr; cases hr), fun j hj => ?_⟩
    by_cases hji : j = i
    · subst hji; exact hy.wpOp hi hS ⟨fun _ h => h, H⟩
    · have h1 := H.2 j (ready_mono hj hji)
      obtain ⟨hjun, oj, hoj, hall⟩ := mem_ready.1 hj
      have hnot : ∀ e ∈ oj.after, Region.binds md e = true → e.on ≠ i := fun e he hb heq => by
        have h1 := hall e he hb
        have h0 := (mem_ready.1 hr).1
        rw [heq] at h1
        rcases Nat.lt_or_ge i listed.size with h' | h'
        · simp [h'] at h0 h1; rw [h0] at h1; cases h1
        · simp [Array.getElem?_eq_none h'] at h1
      have hjm : j < m := Classical.byContradiction fun hjn => by
        obtain ⟨e, he, hb, heq⟩ := depends_spec hph hoj hjn
        rcases heq with heq | heq
        · exact hnot e he hb heq
        · have h1 := hall e he hb
          rw [hun _ heq] at h1; cases h1
      have h2 := wpOp_putIf hoj (hfree j oj hoj hji hjun hnot) (fun cs b => hsel i oi cs b hi) (fun cs b => hsel j oj cs b hoj) hQ hy h1
      have hfree' : ∀ k ok, ops[k]? = some ok → k ≠ i → (listed.setIfInBounds j true).getD k true = false →
          (∀ e ∈ ok.after, Region.binds md e = true → e.on ≠ i) → oi.apart ops ok = true := fun k ok hk hki hun hno => by
        refine hfree k ok hk hki ?_ hno
        by_cases hjk : j = k
        · subst hjk; exact hjun
        · rw [getD_set_ne true hjk] at hun; exact hun
      refine wpOp_mono (fun a' w' h3 => ⟨h3.2.1, ih (listed.setIfInBounds j true) a' w' hfree' (fun k hk => by rw [getD_set_false (by omega)]; exact hun k hk) (ready_mono hr (Ne.symm hji)) h3.1 (h3.2.1 hjm hS) ?_⟩) h2
      rw [Array.setIfInBounds_comm _ _ hji]
      exact h3.2.2
/-- Take number i first: it yields in every world that meets S; what is from m on has not run yet. -/
theorem wpAnyP_loadD {oi : Oper} {v : Value} {fuel : Nat} {listed : Array Bool} {a : Act} {w : World} (i : Nat) (hw : (depends md ops m i && decide (i < m)) = true) (hu : (unrun ops m listed && (listed.size == ops.size)) = true) (hi : ops[i]? = some oi)
    (hs : Region.noSelect ops = true) (hf : Region.free md ops listed i = true) (hr : (Region.ready md ops listed).contains i = true)
    (hQ : ∀ c a w, Q (.panic c) (a.put oi.dst v) w → Q (.panic c) a w) (hS : S w) (hy : YieldsIf P ops S oi v a)
    (h : wpAnyP P md ops Q S m fuel (listed.setIfInBounds i true) (a.put oi.dst v) w) : wpAnyP P md ops Q S m (fuel + 1) listed a w := by
  simp only [Bool.and_eq_true, decide_eq_true_eq, beq_iff_eq] at hw hu
  exact wpAnyP_firstD hw.1 hw.2 hi (Region.noSelect_spec hs) hQ fuel listed a w (Region.free_spec hi hf) (unrun_spec hu.1 hu.2) (by simpa using hr) hy hS h
/-- All below m have run: another condition may come in the place of the first. -/
theorem wpAnyP_swap (S' : World → Prop) (m' : Nat) : ∀ (fuel : Nat) (listed : Array Bool) (a : Act) (w : World), (∀ j, j < m → listed.getD j false = true) →
    wpAnyP P md ops Q S' m' fuel listed a w → wpAnyP P md ops Q S m fuel listed a w
  | 0, _, _, _, _, h => h
  | fuel + 1, listed, a, w, hl, h => ⟨h.1, fun i hi => wpOp_mono (fun a' w' h' => ⟨fun him => by
      have h0 := (mem_ready.1 hi).1
      have h1 := hl i him
      rcases Nat.lt_or_ge i listed.size with h'' | h''
      · simp [h''] at h0 h1; rw [h0] at h1; cases h1
      · simp [Array.getElem?_eq_none h''] at h1, wpAnyP_swap S' m' fuel _ a' w' (fun j hj => by
          by_cases hij : i = j
          · subst hij
            have h1 := hl i hj
            rcases Nat.lt_or_ge i listed.size with h'' | h''
            · simp [h'']
            · simp [Array.getElem?_eq_none h''] at h1
          · rw [getD_set_false hij]; exact hl j hj) h'.2⟩) (h.2 i hi)⟩
def ranAll (m : Nat) (listed : Array Bool) : Bool := (List.range m).all fun j => listed.getD j false
theorem wpAnyP_swapB (S' : World → Prop) (m' : Nat) {fuel : Nat} {listed : Array Bool} {a : Act} {w : World} (hl : ranAll m listed = true) (h : wpAnyP P md ops Q S' m' fuel listed a w) : wpAnyP P md ops Q S m fuel listed a w :=
  wpAnyP_swap S' m' fuel listed a w (fun j hj => List.all_eq_true.1 hl j (List.mem_range.2 hj)) h
end

end Go.Proofs.YtdhafdejionefaaGreat
