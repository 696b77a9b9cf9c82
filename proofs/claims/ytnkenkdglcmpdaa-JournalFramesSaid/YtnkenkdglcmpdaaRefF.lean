/- The law JournalFrames: any record has the frame, any bytes have the frames, that the document says. -/
import Derived.Test.YtnkenkdglcmpdaaRefE
import Derived.Test.YtnkenkdglcmpdaaJouU
import Derived.Test.YtnkenkdglcmpdaaJouX
namespace Go.Proofs.Ytnkenkdglcmpdaa
set_option linter.unusedVariables false
set_option linter.unusedSimpArgs false
open Go.RowKit

section
variable {P : Program} {ops : Array Oper} {Q : Exit → Act → World → Prop} {md : Region.Mode} {S S' : World → Prop} {m m' : Nat}
theorem ready_lt {listed : Array Bool} {i : Nat} (h : i ∈ Region.ready md ops listed) : i < ops.size := by
  obtain ⟨_, oj, hoj, _⟩ := mem_ready.1 h
  exact (Array.getElem?_eq_some_iff.1 hoj).1
/-- A condition may be put in the place of another one that it implies. -/
theorem wpAnyP_restate (S' : World → Prop) (m' : Nat) (hm : ops.size ≤ m') (hSS : ∀ w, S' w → S w) : ∀ (fuel : Nat) (listed : Array Bool) (a : Act) (w : World), S' w → wpAnyP P md ops Q S' m' fuel listed a w → wpAnyP P md ops Q S m fuel listed a w
  | 0, _, _, _, _, h => h
  | fuel + 1, listed, a, w, hs, h => ⟨h.1, fun i hi => wpOp_mono (fun a' w' h' => ⟨fun _ _ => hSS _ (h'.1 (Nat.lt_of_lt_of_le (ready_lt hi) hm) hs), wpAnyP_restate S' m' hm hSS fuel _ a' w' (h'.1 (Nat.lt_of_lt_of_le (ready_lt hi) hm) hs) h'.2⟩) (h.2 i hi)⟩
end
theorem OFr.kinds {B : Nat} {w : World} {fs : List (UInt8 × List UInt8)} {kv lv : Value} (h : OFr B w fs kv lv) : OBB B w kv (fs.map (·.1)) := by
  obtain ⟨cs, h1, h2, h3⟩ := h
  refine ⟨?_, fun k hk => (h1.lt k hk).1⟩
  unfold OB; rw [List.length_map]; exact own_base h1 (Nat.zero_le _)
theorem OFr.recs {B : Nat} {w : World} {fs : List (UInt8 × List UInt8)} {kv lv : Value} (h : OFr B w fs kv lv) : OL B w lv (fs.map (·.2)) := by
  obtain ⟨cs, h1, h2, h3⟩ := h
  refine ⟨cs, by rw [List.length_map]; exact h2, fun j cc p hc hp => ?_⟩
  rw [List.getElem?_map] at hp
  obtain ⟨q, hq, rfl⟩ := Option.map_eq_some_iff.1 hp
  exact (h3 j cc q hc hq).mono (Nat.le_refl _) (fun k _ h => .inr h)
set_option maxRecDepth 100000 in
set_option maxHeartbeats 4000000 in
theorem lawFrames (k : UInt8) (A1 A2 : Option Addr) (l1 c1 l2 c2 : Nat) (z1 z2 : List Int) (w : World) (h1 : IsRow .u8 w A1 l1 c1 z1) (h2 : IsRow .u8 w A2 l2 c2 z2) :
    Calls Try.prog 13 #[.int .u8 (k.toNat : Int), .slice A1 l1 c1, .slice A2 l2 c2] w fun e w' => e = .returned (.bool true) ∧ Below w.heap.size w w' := by
  obtain ⟨W, hW⟩ : ∃ W, W = w.alloc (.cells #[.slice A1 l1 c1, .slice A2 l2 c2] 22) := ⟨_, rfl⟩
  have hbw : Below w.heap.size w W := by rw [hW]; exact (Below.refl _ _).alloc (Nat.le_refl _) _
  have hrecs : RecsR W (some ⟨w.heap.size, 0, none⟩) [⟨A1, l1, c1, z1⟩, ⟨A2, l2, c2, z2⟩] := by
    have hblk : Blk W w.heap.size #[.slice A1 l1 c1, .slice A2 l2 c2] 22 := by rw [hW]; exact Blk.new w _ _
    refine ⟨fun i a hi => ?_, fun i a hi => ?_⟩
    · match i, hi with
      | 0, hi => cases hi; exact isrow_below h1 hbw
      | 1, hi => cases hi; exact isrow_below h2 hbw
      | n + 2, hi => simp at hi
    · refine ⟨w.heap.size, 0, rfl, by rw [hW]; simp, ?_⟩
      rw [Nat.zero_add]
      match i, hi with
      | 0, hi => cases hi; exact hblk.cell 0
      | 1, hi => cases hi; exact hblk.cell 1
      | n + 2, hi => simp at hi
  have HRE := Lib.hid hrecs
  have HBW := Lib.hid hbw
  have H1 := Lib.hid h1
  have H2 := Lib.hid h2
  obtain ⟨q, hq⟩ : ∃ q, q = k.toNat := ⟨_, rfl⟩
  have hq256 : q < 256 := by rw [hq]; exact k.toNat_lt
  rw [← hq]
  have HQ := Lib.hid hq
  have HW := Lib.hid hW
  clear hrecs hbw h1 h2 hq hW
  go_enter Try.func13, Try.ntmps13
  go_wp2_with fail
  rw [← HW.out]
  refine (light8_any (some ⟨w.heap.size, 0, none⟩) 2 [⟨A1, l1, c1, z1⟩, ⟨A2, l2, c2, z2⟩] W HRE.out (by simp)).mono ?_
  rintro e w1 ⟨b, rfl, hlb, hb1⟩
  have HB1 := Lib.hid (HBW.out.trans (Below.up hb1 HBW.out.size))
  cases b with
  | false =>
    clear hb1 hlb
    go_wp2_with fail
    refine (jlives_true w1).mono ?_
    rintro e w2 ⟨rfl, hb⟩
    have HB2 := Lib.hid (HB1.out.trans (Below.up hb HB1.out.size))
    clear hb
    go_wp2_with fail
    go_ret
    exact ⟨rfl, HB2.out⟩
  | true =>
    have hl8 := hlb rfl
    unfold Light8 rlens at hl8
    simp at hl8
    obtain ⟨xs, hx1, hx2⟩ := H1.out.bytes (by omega)
    obtain ⟨ys, hy1, hy2⟩ := H2.out.bytes (by omega)
    have hcap2 := isrow_cap H2.out
    have hs1 : w.heap.size ≤ w1.heap.size := HB1.out.size
    have HX := Lib.hid hx2
    have HY := Lib.hid hy2
    have HXL := Lib.hid hx1
    have HYL := Lib.hid hy1
    clear hb1 hlb hx2 hy2 hx1 hy1 HW HRE HBW H1 H2
    go_wp2_with fail
    have hfa := frames_any A2 c2 ys w1 (HY.out.below HB1.out) (by rw [HYL.out]; exact hcap2) (by rw [HYL.out]; omega)
    rw [HYL.out] at hfa
    refine hfa.mono ?_
    clear hfa
    rintro e w2 ⟨kv, lv, rfl, hkv, hlv, hb2⟩
    have HB2 := Lib.hid (HB1.out.trans (Below.up hb2 hs1))
    have hs2 : w.heap.size ≤ w2.heap.size := HB2.out.size
    have HKV := Lib.hid hkv
    have HLV := Lib.hid hlv
    clear hb2 hkv hlv
    go_wp2_with fail
    have hfa := rframes_any A2 c2 ys w2 (HY.out.below HB2.out) (by rw [HYL.out]; exact hcap2) (by rw [HYL.out]; omega)
    rw [HYL.out] at hfa
    refine hfa.mono ?_
    clear hfa
    rintro e w3 ⟨kv2, lv2, rfl, hof, hb3⟩
    have HB3 := Lib.hid (HB2.out.trans (Below.up hb3 hs2))
    have hs3 : w.heap.size ≤ w3.heap.size := HB3.out.size
    obtain ⟨n, hn⟩ : ∃ n, n = (framesP ys).length := ⟨_, rfl⟩
    have hn8 : n ≤ 8000 := by have := framesP_len ys; rw [hn]; rw [HYL.out] at this; omega
    obtain ⟨kA, kc, rfl, hk1, _⟩ := (HKV.out.below hb3).reads' (by rw [List.length_map, ← hn]; omega)
    obtain ⟨kA2, kc2, rfl, hk2, _⟩ := hof.kinds.reads' (by rw [List.length_map, ← hn]; omega)
    obtain ⟨lA, lc, hlve, hl1⟩ := HLV.out.rls (X := fun _ => False) (fun _ h => h.elim)
    obtain ⟨lA2, lc2, hlve2, hl2⟩ := hof.recs.rls (X := fun _ => False) (fun _ h => h.elim)
    subst hlve hlve2
    have hl1 := hl1.upd (Upd.of_below hb3)
    obtain ⟨ks, hks⟩ : ∃ ks, ks = (framesP ys).map (·.1) := ⟨_, rfl⟩
    obtain ⟨ms, hms⟩ : ∃ ms, ms = (framesP ys).map (·.2) := ⟨_, rfl⟩
    have hksl : n = ks.length := by rw [hks, List.length_map, hn]
    have hmsl : n = ms.length := by rw [hms, List.length_map, hn]
    rw [← hms] at hl1 hl2
    rw [← hks] at hk1 hk2
    simp only [← hks, ← hms, ← hksl, ← hmsl]
    have HK1 := Lib.hid hk1
    have HK2 := Lib.hid hk2
    have HL1 := Lib.hid hl1
    have HL2 := Lib.hid hl2
    have HKSL := Lib.hid hksl
    have HMSL := Lib.hid hmsl
    clear hk1 hk2 hl1 hl2 hksl hmsl hks hms hn hof HKV HLV hb3
    go_wp2_with fail
    obtain ⟨sf, hsf⟩ : ∃ sf, sf = strB (frameB k xs) := ⟨_, rfl⟩
    obtain ⟨sk, hsk⟩ : ∃ sk, sk = strB ks := ⟨_, rfl⟩
    have HSF := Lib.hid hsf
    have HSK := Lib.hid hsk
    clear hsf hsk
    refine wp_region_phased (fun W => Below w3.heap.size w3 W) 25 (by kernel_rfl) (Below.refl _ _).drew (fun hS => ?_)
    have hD := hS
    have hX1 := (HX.out.below HB3.out).below hD
    refine wpAnyP_pure (v := ?_) 0 (at_toArray rfl) (by kernel_rfl) (by kernel_rfl) (by kernel_rfl) (fun _ _ _ h => h) (Or.inl ⟨by rfl, fun W => ?_⟩) ?_
    rotate_left 1
    · (go_simp <;> (try go_bits) <;> with_reducible rfl)
    simp only [Act.put, List.setIfInBounds_toArray, List.set_cons_zero, List.set_cons_succ]
    refine wpAnyP_pure (v := ?_) 1 (at_toArray rfl) (by kernel_rfl) (by kernel_rfl) (by kernel_rfl) (fun _ _ _ h => h) (Or.inl ⟨by rfl, fun W => ?_⟩) ?_
    rotate_left 1
    · (go_simp <;> (try go_bits) <;> with_reducible rfl)
    simp only [Act.put, List.setIfInBounds_toArray, List.set_cons_zero, List.set_cons_succ]
    refine wpAnyP_pure (v := ?_) 4 (at_toArray rfl) (by kernel_rfl) (by kernel_rfl) (by kernel_rfl) (fun _ _ _ h => h) (Or.inl ⟨by rfl, fun W => ?_⟩) ?_
    rotate_left 1
    · (go_simp <;> (try go_bits) <;> with_reducible rfl)
    simp only [Act.put, List.setIfInBounds_toArray, List.set_cons_zero, List.set_cons_succ]
    refine wpAnyP_pure (v := ?_) 5 (at_toArray rfl) (by kernel_rfl) (by kernel_rfl) (by kernel_rfl) (fun _ _ _ h => h) (Or.inl ⟨by rfl, fun W => ?_⟩) ?_
    rotate_left 1
    · (go_simp <;> (try go_bits) <;> with_reducible rfl)
    simp only [Act.put, List.setIfInBounds_toArray, List.set_cons_zero, List.set_cons_succ]
    refine wpAnyP_one 2 (at_toArray rfl) (by kernel_rfl) rfl (fun K hK => ?_)
    go_wp2_with fail
    have hfrm : Calls Try.prog 53 #[.int .u8 (q : Int), .slice A1 l1 c1] w3.drew fun e w' => ∃ v, e = .returned v ∧ OBB w3.heap.size w' v (frameB k xs) ∧ Below w3.heap.size w3.drew w' := by
      have := frame_any w3.heap.size k A1 c1 xs w3.drew (Nat.le_refl _) hX1 (by rw [HXL.out]; omega)
      rw [← HQ.out, HXL.out] at this
      exact this
    refine hfrm.mono ?_
    clear hfrm
    rintro e w4 ⟨v, rfl, hv, hb4⟩
    have HB4 := Lib.hid (hD.trans hb4)
    have hfl : (frameB k xs).length ≤ 140737488355328 := by
      have := frameB_len k xs
      have := nbytes_small (n := xs.length) (by rw [HXL.out]; omega)
      have := HXL.out
      omega
    have HFL := Lib.hid hfl
    obtain ⟨A6, c6, rfl, hr6, _⟩ := hv.reads' hfl
    have HR6 := Lib.hid hr6
    obtain ⟨n6, hn6⟩ : ∃ n6, n6 = (frameB k xs).length := ⟨_, rfl⟩
    rw [← hn6]
    have HN6 := Lib.hid hn6
    clear hv hb4 hr6 hfl hn6
    go_wp2_with fail
    refine hK.out _ _ (fun _ _ => HB4.out) ?_
    clear hK
    have hX4 : RB w4 A1 xs := (HX.out.below HB3.out).below HB4.out
    refine wpAnyP_restate (fun W => Below w4.heap.size w4 W) 25 (by decide) (fun W hW => HB4.out.trans (Below.up hW HB4.out.size)) _ _ _ _ (Below.refl _ _) ?_
    refine wpAnyP_load (v := ?_) 3 (by kernel_rfl) (at_toArray rfl) (by kernel_rfl) (by kernel_rfl) (by kernel_rfl) (fun _ _ _ h => h) (Below.refl _ _) (Or.inl ⟨by rfl, fun W hS => ?_⟩) ?_
    rotate_left 1
    · (have hc := run_str (HR6.out.below hS) n6 c6 HN6.out.symm; rw [← HSF.out] at hc; go_simp <;> (try go_bits) <;> with_reducible rfl)
    simp only [Act.put, List.setIfInBounds_toArray, List.set_cons_zero, List.set_cons_succ]
    refine wpAnyP_one 6 (at_toArray rfl) (by kernel_rfl) rfl (fun K hK => ?_)
    go_wp2_with fail
    have hfrm : Calls Try.prog 54 #[.int .u8 (q : Int), .slice A1 l1 c1] w4 fun e w' => ∃ v, e = .returned v ∧ OBB w4.heap.size w' v (frameB k xs) ∧ Below w4.heap.size w4 w' := by
      have := rframe_any w4.heap.size k A1 c1 xs w4 (Nat.le_refl _) hX4 (by rw [HXL.out]; omega)
      rw [← HQ.out, HXL.out] at this
      exact this
    refine hfrm.mono ?_
    clear hfrm
    rintro e w5 ⟨v, rfl, hv, hb5⟩
    have HB5 := Lib.hid hb5
    obtain ⟨A7, c7, rfl, hr7, _⟩ := hv.reads' HFL.out
    have HR7 := Lib.hid hr7
    rw [← HN6.out]
    clear hv hr7
    go_wp2_with fail
    refine hK.out _ _ (fun _ _ => HB5.out) ?_
    clear hK
    have HB45 := Lib.hid (HB4.out.trans (Below.up HB5.out HB4.out.size))
    refine wpAnyP_restate (fun W => Below w5.heap.size w5 W) 25 (by decide) (fun W hW => HB5.out.trans (Below.up hW HB5.out.size)) _ _ _ _ (Below.refl _ _) ?_
    have hK15 := HK1.out.below HB45.out
    have hK25 := HK2.out.below HB45.out
    have HK15 := Lib.hid hK15
    have HK25 := Lib.hid hK25
    clear hK15 hK25
    refine wpAnyP_load (v := ?_) 7 (by kernel_rfl) (at_toArray rfl) (by kernel_rfl) (by kernel_rfl) (by kernel_rfl) (fun _ _ _ h => h) (Below.refl _ _) (Or.inl ⟨by rfl, fun W hS => ?_⟩) ?_
    rotate_left 1
    · (have hc := run_str (HR7.out.below hS) n6 c7 HN6.out.symm; rw [← HSF.out] at hc; go_simp <;> (try go_bits) <;> with_reducible rfl)
    simp only [Act.put, List.setIfInBounds_toArray, List.set_cons_zero, List.set_cons_succ]
    refine wpAnyP_pure (v := ?_) 8 (at_toArray rfl) (by kernel_rfl) (by kernel_rfl) (by kernel_rfl) (fun _ _ _ h => h) (Or.inl ⟨by rfl, fun W => ?_⟩) ?_
    rotate_left 1
    · (go_simp <;> (try go_bits) <;> with_reducible rfl)
    simp only [Act.put, List.setIfInBounds_toArray, List.set_cons_zero, List.set_cons_succ]
    refine wpAnyP_pure (v := ?_) 9 (at_toArray rfl) (by kernel_rfl) (by kernel_rfl) (by kernel_rfl) (fun _ _ _ h => h) (Or.inl ⟨by rfl, fun W => ?_⟩) ?_
    rotate_left 1
    · (go_simp <;> (try go_bits) <;> with_reducible rfl)
    simp only [Act.put, List.setIfInBounds_toArray, List.set_cons_zero, List.set_cons_succ]
    refine wpAnyP_pure (v := ?_) 10 (at_toArray rfl) (by kernel_rfl) (by kernel_rfl) (by kernel_rfl) (fun _ _ _ h => h) (Or.inl ⟨by rfl, fun W => ?_⟩) ?_
    rotate_left 1
    · (go_simp <;> (try go_bits) <;> with_reducible rfl)
    simp only [Act.put, List.setIfInBounds_toArray, List.set_cons_zero, List.set_cons_succ]
    refine wpAnyP_load (v := ?_) 11 (by kernel_rfl) (at_toArray rfl) (by kernel_rfl) (by kernel_rfl) (by kernel_rfl) (fun _ _ _ h => h) (Below.refl _ _) (Or.inl ⟨by rfl, fun W hS => ?_⟩) ?_
    rotate_left 1
    · (have hc := run_str (HK15.out.below hS) n kc HKSL.out.symm; rw [← HSK.out] at hc; go_simp <;> (try go_bits) <;> with_reducible rfl)
    simp only [Act.put, List.setIfInBounds_toArray, List.set_cons_zero, List.set_cons_succ]
    refine wpAnyP_pure (v := ?_) 12 (at_toArray rfl) (by kernel_rfl) (by kernel_rfl) (by kernel_rfl) (fun _ _ _ h => h) (Or.inl ⟨by rfl, fun W => ?_⟩) ?_
    rotate_left 1
    · (go_simp <;> (try go_bits) <;> with_reducible rfl)
    simp only [Act.put, List.setIfInBounds_toArray, List.set_cons_zero, List.set_cons_succ]
    refine wpAnyP_load (v := ?_) 13 (by kernel_rfl) (at_toArray rfl) (by kernel_rfl) (by kernel_rfl) (by kernel_rfl) (fun _ _ _ h => h) (Below.refl _ _) (Or.inl ⟨by rfl, fun W hS => ?_⟩) ?_
    rotate_left 1
    · (have hc := run_str (HK25.out.below hS) n kc2 HKSL.out.symm; rw [← HSK.out] at hc; go_simp <;> (try go_bits) <;> with_reducible rfl)
    simp only [Act.put, List.setIfInBounds_toArray, List.set_cons_zero, List.set_cons_succ]
    refine wpAnyP_pure (v := ?_) 14 (at_toArray rfl) (by kernel_rfl) (by kernel_rfl) (by kernel_rfl) (fun _ _ _ h => h) (Or.inl ⟨by rfl, fun W => ?_⟩) ?_
    rotate_left 1
    · (go_simp <;> (try go_bits) <;> with_reducible rfl)
    simp only [Act.put, List.setIfInBounds_toArray, List.set_cons_zero, List.set_cons_succ]
    refine wpAnyP_pure (v := ?_) 15 (at_toArray rfl) (by kernel_rfl) (by kernel_rfl) (by kernel_rfl) (fun _ _ _ h => h) (Or.inl ⟨by rfl, fun W => ?_⟩) ?_
    rotate_left 1
    · (go_simp <;> (try go_bits) <;> with_reducible rfl)
    simp only [Act.put, List.setIfInBounds_toArray, List.set_cons_zero, List.set_cons_succ]
    refine wpAnyP_pure (v := ?_) 16 (at_toArray rfl) (by kernel_rfl) (by kernel_rfl) (by kernel_rfl) (fun _ _ _ h => h) (Or.inl ⟨by rfl, fun W => ?_⟩) ?_
    rotate_left 1
    · (go_simp <;> (try go_bits) <;> with_reducible rfl)
    simp only [Act.put, List.setIfInBounds_toArray, List.set_cons_zero, List.set_cons_succ]
    refine wpAnyP_pure (v := ?_) 17 (at_toArray rfl) (by kernel_rfl) (by kernel_rfl) (by kernel_rfl) (fun _ _ _ h => h) (Or.inl ⟨by rfl, fun W => ?_⟩) ?_
    rotate_left 1
    · (go_simp <;> (try go_bits) <;> with_reducible rfl)
    simp only [Act.put, List.setIfInBounds_toArray, List.set_cons_zero, List.set_cons_succ]
    refine wpAnyP_pure (v := ?_) 18 (at_toArray rfl) (by kernel_rfl) (by kernel_rfl) (by kernel_rfl) (fun _ _ _ h => h) (Or.inl ⟨by rfl, fun W => ?_⟩) ?_
    rotate_left 1
    · (go_simp <;> (try go_bits) <;> with_reducible rfl)
    simp only [Act.put, List.setIfInBounds_toArray, List.set_cons_zero, List.set_cons_succ]
    refine wpAnyP_oneG 19 (at_toArray rfl) (by kernel_rfl) (by rfl) (fun K hK => ?_)
    go_wp2_with fail
    have hsame := same16_any lA lA2 lc lc2 ms ms _ _ w5 (HL1.out.upd (Upd.of_below HB45.out)) (HL2.out.upd (Upd.of_below HB45.out)) (by rw [← HMSL.out]; omega)
    rw [decide_eq_true rfl, ← HMSL.out] at hsame
    refine hsame.mono ?_
    clear hsame
    rintro e w6 ⟨rfl, hb6⟩
    have HB6 := Lib.hid hb6
    clear hb6
    go_wp2_with fail
    refine hK.out _ _ (fun _ _ => HB6.out) ?_
    clear hK
    refine wpAnyP_pure (v := ?_) 20 (at_toArray rfl) (by kernel_rfl) (by kernel_rfl) (by kernel_rfl) (fun _ _ _ h => h) (Or.inl ⟨by rfl, fun W => ?_⟩) ?_
    rotate_left 1
    · (go_simp <;> (try go_bits) <;> with_reducible rfl)
    simp only [Act.put, List.setIfInBounds_toArray, List.set_cons_zero, List.set_cons_succ]
    refine wpAnyP_pure (v := ?_) 21 (at_toArray rfl) (by kernel_rfl) (by kernel_rfl) (by kernel_rfl) (fun _ _ _ h => h) (Or.inl ⟨by rfl, fun W => ?_⟩) ?_
    rotate_left 1
    · (go_simp <;> (try go_bits) <;> with_reducible rfl)
    simp only [Act.put, List.setIfInBounds_toArray, List.set_cons_zero, List.set_cons_succ]
    refine wpAnyP_oneG 22 (at_toArray rfl) (by kernel_rfl) (by rfl) (fun K hK => ?_)
    go_wp2_with fail
    refine (jlives_true w6).mono ?_
    rintro e w7 ⟨rfl, hb7⟩
    have HB7 := Lib.hid (HB6.out.trans (Below.up hb7 HB6.out.size))
    have HB8 := Lib.hid ((HB3.out.trans (Below.up HB45.out hs3)).trans (Below.up HB7.out (Nat.le_trans hs3 HB45.out.size)))
    clear hb7
    go_wp2_with fail
    refine hK.out _ _ (fun _ _ => HB7.out) ?_
    clear hK
    refine wpAnyP_pure (v := ?_) 23 (at_toArray rfl) (by kernel_rfl) (by kernel_rfl) (by kernel_rfl) (fun _ _ _ h => h) (Or.inl ⟨by rfl, fun W => ?_⟩) ?_
    rotate_left 1
    · (go_simp <;> (try go_bits) <;> with_reducible rfl)
    simp only [Act.put, List.setIfInBounds_toArray, List.set_cons_zero, List.set_cons_succ]
    refine wpAnyP_pure (v := ?_) 24 (at_toArray rfl) (by kernel_rfl) (by kernel_rfl) (by kernel_rfl) (fun _ _ _ h => h) (Or.inl ⟨by rfl, fun W => ?_⟩) ?_
    rotate_left 1
    · (go_simp <;> (try go_bits) <;> with_reducible rfl)
    simp only [Act.put, List.setIfInBounds_toArray, List.set_cons_zero, List.set_cons_succ]
    refine wpAnyP_done (by kernel_rfl) ?_ _
    go_wp2_with fail
    go_ret
    exact ⟨rfl, HB8.out⟩

theorem u8_of {a : Int} (h : (Lit.int .u8 a).wf = true) : ∃ k : UInt8, a = (k.toNat : Int) := by
  have h1 := wf_u8 h
  exact ⟨UInt8.ofNat a.toNat, by simp; omega⟩

end Go.Proofs.Ytnkenkdglcmpdaa
