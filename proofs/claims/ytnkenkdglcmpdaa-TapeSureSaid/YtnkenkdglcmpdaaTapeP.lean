/- The walk of the law TapeSure. -/
import Derived.Test.YtnkenkdglcmpdaaTapeO
namespace Go.Proofs.Ytnkenkdglcmpdaa
set_option linter.unusedVariables false
set_option linter.unusedSimpArgs false
open Go.RowKit

/-- What holds at each round's head. -/
def SureW (B : Nat) (w : World) (tb ab n : Nat) (wr : World) : Prop :=
  Below B w wr ∧ ∃ T F all sure, Own B wr tb T F ∧ SureI T all sure ∧ Blk wr ab (two all) 46 ∧ Blk wr (ab + 1) (two sure) 46 ∧ T.used ≤ n ∧ ¬ F ab ∧ ¬ F (ab + 1) ∧ B ≤ ab
set_option maxRecDepth 100000 in
set_option maxHeartbeats 8000000 in
theorem lawSure (A : Option Addr) (c : Nat) (xs : List ActV) (keep : Int) (w : World) (h : ActsR w A xs) (hl : xs.length ≤ 9223372036854775807) :
    Calls Try.prog 8 #[.slice A xs.length c, .int .i64 keep] w fun e w' => e = .returned (.bool true) ∧ Below w.heap.size w w' := by
  obtain ⟨B, hB⟩ : ∃ B, B = w.heap.size := ⟨_, rfl⟩
  obtain ⟨m, hm⟩ : ∃ m, m = xs.length := ⟨_, rfl⟩
  rw [← hB, ← hm]
  rw [← hm] at hl
  have H := Lib.hid h
  have HM := Lib.hid hm
  have HB := Lib.hid hB
  clear h hm hB
  go_enter Try.func8, Try.ntmps8
  go_wp2_with fail
  refine (made B 1048576 w HB.out.symm (by omega) (by omega)).mono ?_
  rintro e w1 ⟨tb, rfl, h1, b1⟩
  have H1 := Lib.hid h1
  have B1 := Lib.hid b1
  clear h1 b1
  go_wp2_with fail
  rw [HM.out]
  refine (light_any A c xs w1 (H.out.below (Below.up B1.out (by have := HB.out; omega))) (by rw [← HM.out]; exact hl)).mono ?_
  rintro e w2 ⟨b, rfl, hb, b2⟩
  rw [← HM.out]
  have HL := Lib.hid hb
  have H2 := Lib.hid (H1.out.below b2)
  have B2 := Lib.hid (B1.out.trans (Below.up b2 H1.out.1))
  clear hb b2 H1 B1
  cases b with
  | false =>
    go_wp2_with fail
    refine (lives_true _).mono ?_
    rintro e w3 ⟨rfl, hb⟩
    go_wp2_with fail
    go_ret
    exact ⟨rfl, B2.out.trans (Below.up hb H2.out.1)⟩
  | true =>
    have HO := Lib.hid (HL.out rfl)
    clear HL
    go_wp2_with fail
    obtain ⟨F0, hF0⟩ := H2.out.own
    have hstart : SureW B w tb w2.heap.size 0 ((w2.alloc (.cells #[.string ⟨#[]⟩, .string ⟨#[]⟩] 46)).alloc (.cells #[.string ⟨#[]⟩, .string ⟨#[]⟩] 46)) := by
      have hbb : Below w2.heap.size w2 ((w2.alloc (.cells #[.string ⟨#[]⟩, .string ⟨#[]⟩] 46)).alloc (.cells #[.string ⟨#[]⟩, .string ⟨#[]⟩] 46)) := ((Below.refl _ _).alloc (Nat.le_refl _) _).alloc (by simp) _
      refine ⟨B2.out.trans (Below.up hbb H2.out.1), TS.new 1048576, F0, _, _, hF0.below hbb, SureI.new, (Blk.new w2 _ _).alloc _, ?_, Nat.le_refl _, fun f => ?_, fun f => ?_, H2.out.1⟩
      · have hnw := Blk.new (w2.alloc (.cells #[.string ⟨#[]⟩, .string ⟨#[]⟩] 46)) #[.string ⟨#[]⟩, .string ⟨#[]⟩] 46
        have hsz : (w2.alloc (.cells #[.string ⟨#[]⟩, .string ⟨#[]⟩] 46)).heap.size = w2.heap.size + 1 := by simp
        rw [hsz] at hnw
        exact hnw
      · have := hF0.lt _ f; omega
      · have := hF0.lt _ f; omega
    have HS := Lib.hid hstart
    clear hstart hF0 H2 B2
    obtain ⟨w3, hw3⟩ : ∃ w3, w3 = ((w2.alloc (.cells #[.string ⟨#[]⟩, .string ⟨#[]⟩] 46)).alloc (.cells #[.string ⟨#[]⟩, .string ⟨#[]⟩] 46)) := ⟨_, rfl⟩
    obtain ⟨ab, hab⟩ : ∃ ab, ab = w2.heap.size := ⟨_, rfl⟩
    rw [← hw3] at HS ⊢
    rw [← hab] at HS ⊢
    clear hw3 hab
    go_loopw [29] (fun i wr => ∃ k : Nat, k ≤ m ∧ i = .int .i64 k ∧ Hid (SureW B w tb ab (lens (xs.take k)) wr)) (fun i _ => m - (intOf i).toNat)
    case atStart => exact ⟨0, Nat.zero_le _, rfl, HS⟩
    case round =>
      clear HS
      obtain ⟨k, hk, rfl, HS⟩ := hrel
      obtain ⟨hbel, T, F, all, sure, hT, hS, hka, hks, hu, hfa, hfs, hBa⟩ := HS.out
      have HT := Lib.hid hT
      have HI := Lib.hid hS
      have HKA := Lib.hid hka
      have HKS := Lib.hid hks
      have HU := Lib.hid hu
      have HFA := Lib.hid hfa
      have HFS := Lib.hid hfs
      have HBL := Lib.hid hbel
      clear hT hS hka hks hu hfa hfs hbel HS
      by_cases hlt : k < m
      · obtain ⟨a, ha⟩ : ∃ a, xs[k]? = some a := ⟨_, List.getElem?_eq_getElem (by rw [← HM.out]; exact hlt)⟩
        have HX : Hid (ActsR wr A xs) := Lib.hid (H.out.below (Below.up HBL.out (by have := HB.out; omega)))
        obtain ⟨b, off, rfl, hlb, hc⟩ := HX.out.cell k a ha
        have hc0 : wr.cell? ⟨b, off + k * 5, none⟩ = some (.int .i64 a.kind) := hc 0 (by omega)
        have hc1 : wr.cell? ⟨b, off + k * 5 + 1, none⟩ = some (.int .i64 a.area) := hc 1 (by omega)
        have hc2 : wr.cell? ⟨b, off + k * 5 + 2, none⟩ = some (.slice a.A a.len a.cap) := hc 2 (by omega)
        have hc3 : wr.cell? ⟨b, off + k * 5 + 3, none⟩ = some (.int .i64 a.n) := hc 3 (by omega)
        have hc4 : wr.cell? ⟨b, off + k * 5 + 4, none⟩ = some (.int .i64 a.keep) := hc 4 (by omega)
        have l1 : (k : Int) < (m : Int) := by omega
        have HA := Lib.hid ha
        clear hc ha
        obtain ⟨q, hq, hqe2⟩ := modq a.area 2 (by omega) (by omega)
        have HQ2 : Hid (wrap64 ((IntKind.u64.wrap a.area).tmod 2) = (q : Int)) := Lib.hid hqe2
        obtain ⟨ys, hyl, hys⟩ := (H.out.ok k a HA.out).bytes (HO.out.at k a HA.out)
        have hlen : lens (xs.take (k + 1)) = lens (xs.take k) + ys.length := by rw [hyl]; exact lens_take xs k a HA.out
        have hfit : T.used + ys.length ≤ 20000 := by
          have h1 := lens_le xs (k + 1)
          have h2 : 20 * xs.length + lens xs ≤ 20000 := HO.out
          have h3 := HU.out
          omega
        rw [← hyl] at hc2
        have HLEN := Lib.hid hlen
        have HFIT := Lib.hid hfit
        have HY := Lib.hid hys
        clear hqe2 hyl hys hlen hfit
        obtain ⟨kind, hkind⟩ : ∃ kind, kind = a.kind := ⟨_, rfl⟩
        rw [← hkind] at hc0
        clear hkind
        by_cases hk0 : kind = 0
        · subst hk0
          go_wp2_with fail
          rw [HQ2.out]
          have hba : Below wr.heap.size wr (wr.alloc (.cells #[.int .i64 0, .int .i64 a.area, .slice a.A ys.length a.cap, .int .i64 a.n, .int .i64 a.keep] 37)) := (Below.refl _ _).alloc (Nat.le_refl _) _
          have HBK := Lib.hid (Blk.new wr #[.int .i64 0, .int .i64 a.area, .slice a.A ys.length a.cap, .int .i64 a.n, .int .i64 a.keep] 37)
          have HT3 := Lib.hid (HT.out.below hba)
          have HBL3 := Lib.hid (HBL.out.trans (Below.up hba HT.out.size))
          have HKA3 := Lib.hid (HKA.out.below hba)
          have HKS3 := Lib.hid (HKS.out.below hba)
          have HNL : Hid (¬ F wr.heap.size) := Lib.hid fun f => by have := HT.out.lt _ f; omega
          clear hba hc0 hc1 hc2 hc3 hc4 HT HBL HX HKA HKS
          generalize wr.alloc _ = w3 at *
          obtain ⟨lb, hlb2⟩ : ∃ lb, lb = wr.heap.size := ⟨_, rfl⟩
          rw [← hlb2] at HBK HNL ⊢
          clear hlb2
          obtain ⟨T', hap, hI', hu'⟩ := HI.out.append HT3.out.ok q hq ys (by have := HFIT.out; omega)
          have HAP := Lib.hid hap
          have HI2 := Lib.hid hI'
          have HU2 : Hid (T'.used ≤ lens (xs.take (k + 1))) := Lib.hid (by rw [HLEN.out, hu']; have := HU.out; omega)
          have hsz : (all q).size ≤ 20000 := by have := HI.out.size q hq; have := HFIT.out; omega
          have HSZ := Lib.hid hsz
          clear hap hI' hu' hsz
          refine (append_at tb q a.A a.cap ys T F w3 _ HAP.out HT3.out.tape (HY.out.below (Below.up HBL3.out (by have := HB.out; omega))) (fun ad e hx f => by have := HY.out.lt ad e hx; have := HB.out; have := HT3.out.from_ _ f; omega)).mono ?_
          rintro e w5 ⟨rfl, F5, ht5, hu5⟩
          have hT5 := HT3.out.upd ht5 hu5
          have HT5 := Lib.hid hT5.1
          have HBL5 := Lib.hid (HBL3.out.trans hT5.2)
          have HKA5 := Lib.hid (HKA3.out.fr hu5.fr HFA.out)
          have HKS5 := Lib.hid (HKS3.out.fr hu5.fr HFS.out)
          have HBK5 := Lib.hid (HBK.out.fr hu5.fr HNL.out)
          have HFA5 : Hid (¬ F5 ab) := Lib.hid fun f => (hu5.new _ f).elim HFA.out (fun h => by have := HKA3.out.lt; omega)
          have HFS5 : Hid (¬ F5 (ab + 1)) := Lib.hid fun f => (hu5.new _ f).elim HFS.out (fun h => by have := HKS3.out.lt; omega)
          clear ht5 hu5 hT5 HT3 HBL3 HKA3 HKS3 HBK HFA HFS HNL
          go_wp2_with fail
          obtain ⟨sy, hsy⟩ : ∃ sy, sy = strB ys := ⟨_, rfl⟩
          have hsy2 : ¬ 9223372036854775807 < (all q).size + sy.size := by rw [hsy, strB_size]; have := HSZ.out; have := HFIT.out; omega
          have HC : Hid (∀ n, Sem.run Try.prog (convert 22 9 (.slice a.A ys.length a.cap)) (w5.drewN n) = .ok (.string sy) (w5.drewN n)) := Lib.hid fun n => by
            rw [hsy]
            exact run_str (w := w5.drewN n) ((HY.out.below (Below.up HBL5.out (by have := HB.out; omega))).below (⟨rfl, rfl, rfl, Nat.le_refl _, fun _ _ => rfl⟩ : Below w5.heap.size w5 (w5.drewN n))) ys.length a.cap rfl
          rw [← hsy] at HI2
          clear hsy
          have hcq : w5.cell? ⟨ab, q, none⟩ = some (.string (all q)) := (HKA5.out.cell q).trans (two_get all q hq)
          have hfq : w5.drew.frozen? ⟨ab, q, none⟩ = false := HKA5.out.free q
          have hcq2 : w5.drew.cell? ⟨ab, q, none⟩ = some (.string (all q)) := hcq
          have hdl : w5.cell? ⟨lb, 2, none⟩ = some (.slice a.A ys.length a.cap) := HBK5.out.cell 2
          have lq : (q : Int) < 2 := by omega
          refine wp_region_phased (fun W => (∃ n, W = w5.drewN n) ∧ W.cell? ⟨ab, q, none⟩ = some (.string (all q)) ∧ W.cell? ⟨lb, 2, none⟩ = some (.slice a.A ys.length a.cap)) 8 (by kernel_rfl) ⟨⟨1, rfl⟩, hcq, hdl⟩ (fun hS0 => ?_)
          refine wpAnyP_pure (v := ?_) 0 (at_toArray rfl) (by kernel_rfl) (by kernel_rfl) (by kernel_rfl) (fun _ _ _ h => h) (Or.inl ⟨by rfl, fun W => ?_⟩) ?_
          rotate_left 1
          · (go_simp <;> (try go_bits) <;> with_reducible rfl)
          simp only [Act.put, List.setIfInBounds_toArray, List.set_cons_zero, List.set_cons_succ]
          refine wpAnyP_pure (v := ?_) 1 (at_toArray rfl) (by kernel_rfl) (by kernel_rfl) (by kernel_rfl) (fun _ _ _ h => h) (Or.inl ⟨by rfl, fun W => ?_⟩) ?_
          rotate_left 1
          · (go_simp <;> (try go_bits) <;> with_reducible rfl)
          simp only [Act.put, List.setIfInBounds_toArray, List.set_cons_zero, List.set_cons_succ]
          refine wpAnyP_load (v := ?_) 2 (by kernel_rfl) (at_toArray rfl) (by kernel_rfl) (by kernel_rfl) (by kernel_rfl) (fun _ _ _ h => h) (by first | assumption | rfl) (Or.inl ⟨by rfl, fun W hS => ?_⟩) ?_
          rotate_left 1
          · (obtain ⟨_, s1, s2⟩ := hS; go_simp <;> (try go_bits) <;> with_reducible rfl)
          simp only [Act.put, List.setIfInBounds_toArray, List.set_cons_zero, List.set_cons_succ]
          refine wpAnyP_pure (v := ?_) 3 (at_toArray rfl) (by kernel_rfl) (by kernel_rfl) (by kernel_rfl) (fun _ _ _ h => h) (Or.inl ⟨by rfl, fun W => ?_⟩) ?_
          rotate_left 1
          · (go_simp <;> (try go_bits) <;> with_reducible rfl)
          simp only [Act.put, List.setIfInBounds_toArray, List.set_cons_zero, List.set_cons_succ]
          refine wpAnyP_load (v := ?_) 4 (by kernel_rfl) (at_toArray rfl) (by kernel_rfl) (by kernel_rfl) (by kernel_rfl) (fun _ _ _ h => h) (by first | assumption | rfl) (Or.inl ⟨by rfl, fun W hS => ?_⟩) ?_
          rotate_left 1
          · (obtain ⟨_, s1, s2⟩ := hS; go_simp <;> (try go_bits) <;> with_reducible rfl)
          simp only [Act.put, List.setIfInBounds_toArray, List.set_cons_zero, List.set_cons_succ]
          refine wpAnyP_load (v := ?_) 5 (by kernel_rfl) (at_toArray rfl) (by kernel_rfl) (by kernel_rfl) (by kernel_rfl) (fun _ _ _ h => h) (by assumption) (Or.inl ⟨by rfl, fun W hS => ?_⟩) ?_
          rotate_left 1
          · (obtain ⟨⟨n, rfl⟩, _⟩ := hS; have hc := HC.out n; go_simp <;> (try go_bits) <;> with_reducible rfl)
          simp only [Act.put, List.setIfInBounds_toArray, List.set_cons_zero, List.set_cons_succ]
          refine wpAnyP_pure (v := ?_) 6 (at_toArray rfl) (by kernel_rfl) (by kernel_rfl) (by kernel_rfl) (fun _ _ _ h => h) (Or.inl ⟨by rfl, fun W => ?_⟩) ?_
          rotate_left 1
          · (go_simp <;> (try go_bits) <;> with_reducible rfl)
          simp only [Act.put, List.setIfInBounds_toArray, List.set_cons_zero, List.set_cons_succ]
          refine wpAnyP_pure (v := ?_) 7 (at_toArray rfl) (by kernel_rfl) (by kernel_rfl) (by kernel_rfl) (fun _ _ _ h => h) (Or.inl ⟨by rfl, fun W => ?_⟩) ?_
          rotate_left 1
          · (go_simp <;> (try go_bits) <;> with_reducible rfl)
          simp only [Act.put, List.setIfInBounds_toArray, List.set_cons_zero, List.set_cons_succ]
          refine wpAnyP_one 8 (at_toArray rfl) (by kernel_rfl) rfl (fun K hK => ?_)
          go_wp2_with fail
          refine hK.out _ _ (fun h => absurd h (by decide)) ?_
          clear hK
          refine wpAnyP_done (by kernel_rfl) ?_ _
          clear hS0 hcq hfq hcq2 hdl
          have HT6 : Hid (Own B (w5.setCell ⟨ab, q, none⟩ (.string (all q ++ sy))).drew tb T' F5) := Lib.hid ((HT5.out.below (Below.refl _ _).drew).other _ _ HFA5.out)
          have HBL6 : Hid (Below B w (w5.setCell ⟨ab, q, none⟩ (.string (all q ++ sy))).drew) := Lib.hid (HBL5.out.drew.setCell hBa _)
          have HKA6 : Hid (Blk (w5.setCell ⟨ab, q, none⟩ (.string (all q ++ sy))).drew ab (two (upd all q (all q ++ sy))) 46) := Lib.hid (by have := HKA5.out.drew.set q (.string (all q ++ sy)); rwa [two_set all q _ hq] at this)
          have HKS6 : Hid (Blk (w5.setCell ⟨ab, q, none⟩ (.string (all q ++ sy))).drew (ab + 1) (two sure) 46) := Lib.hid (HKS5.out.drew.setOther _ _ (by show ab + 1 ≠ ab; omega))
          clear HT5 HBL5 HKA5 HKS5 HBK5 HC
          generalize (w5.setCell ⟨ab, q, none⟩ (.string (all q ++ sy))).drew = w6 at *
          go_wp2_with fail
          go_roundw
          case rel => exact ⟨k + 1, by omega, by go_num, Lib.hid ⟨HBL6.out, T', F5, _, _, HT6.out, HI2.out, HKA6.out, HKS6.out, HU2.out, HFA5.out, HFS5.out, hBa⟩⟩
          case measure => simp [intOf]; omega
        · by_cases hk1 : kind = 1
          · subst hk1
            go_wp2_with fail
            rw [HQ2.out]
            have hba : Below wr.heap.size wr (wr.alloc (.cells #[.int .i64 1, .int .i64 a.area, .slice a.A ys.length a.cap, .int .i64 a.n, .int .i64 a.keep] 37)) := (Below.refl _ _).alloc (Nat.le_refl _) _
            have HBK := Lib.hid (Blk.new wr #[.int .i64 1, .int .i64 a.area, .slice a.A ys.length a.cap, .int .i64 a.n, .int .i64 a.keep] 37)
            have HT3 := Lib.hid (HT.out.below hba)
            have HBL3 := Lib.hid (HBL.out.trans (Below.up hba HT.out.size))
            have HKA3 := Lib.hid (HKA.out.below hba)
            have HKS3 := Lib.hid (HKS.out.below hba)
            have HNL : Hid (¬ F wr.heap.size) := Lib.hid fun f => by have := HT.out.lt _ f; omega
            clear hba hc0 hc1 hc2 hc3 hc4 HT HBL HX HKA HKS
            generalize wr.alloc _ = w3 at *
            obtain ⟨lb, hlb2⟩ : ∃ lb, lb = wr.heap.size := ⟨_, rfl⟩
            rw [← hlb2] at HBK HNL ⊢
            clear hlb2
            obtain ⟨T', hap, hI', hu'⟩ := HI.out.sync q hq
            have HAP := Lib.hid hap
            have HI2 := Lib.hid hI'
            have HU2 : Hid (T'.used ≤ lens (xs.take (k + 1))) := Lib.hid (by rw [HLEN.out]; have := HU.out; omega)
            clear hap hI' hu'
            refine (sync_any tb q T F w3 HT3.out.tape).mono ?_
            rw [HAP.out]
            rintro e w5 ⟨rfl, F5, ht5, hu5⟩
            have hT5 := HT3.out.upd ht5 hu5
            have HT5 := Lib.hid hT5.1
            have HBL5 := Lib.hid (HBL3.out.trans hT5.2)
            have HKA5 := Lib.hid (HKA3.out.fr hu5.fr HFA.out)
            have HKS5 := Lib.hid (HKS3.out.fr hu5.fr HFS.out)
            have HFA5 : Hid (¬ F5 ab) := Lib.hid fun f => (hu5.new _ f).elim HFA.out (fun h => by have := HKA3.out.lt; omega)
            have HFS5 : Hid (¬ F5 (ab + 1)) := Lib.hid fun f => (hu5.new _ f).elim HFS.out (fun h => by have := HKS3.out.lt; omega)
            clear ht5 hu5 hT5 HT3 HBL3 HKA3 HKS3 HBK HFA HFS HNL
            have hcq : w5.cell? ⟨ab, q, none⟩ = some (.string (all q)) := (HKA5.out.cell q).trans (two_get all q hq)
            have hfq : w5.frozen? ⟨ab, q, none⟩ = false := HKA5.out.free q
            have hcs : w5.cell? ⟨ab + 1, q, none⟩ = some (.string (sure q)) := (HKS5.out.cell q).trans (two_get sure q hq)
            have hfs : w5.frozen? ⟨ab + 1, q, none⟩ = false := HKS5.out.free q
            have lq : (q : Int) < 2 := by omega
            go_wp2_with fail
            clear hcq hfq hcs hfs
            have HT6 : Hid (Own B (w5.setCell ⟨ab + 1, q, none⟩ (.string (all q))) tb T' F5) := Lib.hid (HT5.out.other _ _ HFS5.out)
            have HBL6 : Hid (Below B w (w5.setCell ⟨ab + 1, q, none⟩ (.string (all q)))) := Lib.hid (HBL5.out.setCell (Nat.le_succ_of_le hBa) _)
            have HKS6 : Hid (Blk (w5.setCell ⟨ab + 1, q, none⟩ (.string (all q))) (ab + 1) (two (upd sure q (all q))) 46) := Lib.hid (by have := HKS5.out.set q (.string (all q)); rwa [two_set sure q _ hq] at this)
            have HKA6 : Hid (Blk (w5.setCell ⟨ab + 1, q, none⟩ (.string (all q))) ab (two all) 46) := Lib.hid (HKA5.out.setOther _ _ (by show ab ≠ ab + 1; omega))
            clear HT5 HBL5 HKA5 HKS5
            generalize w5.setCell _ _ = w6 at *
            go_wp2_with fail
            go_roundw
            case rel => exact ⟨k + 1, by omega, by go_num, Lib.hid ⟨HBL6.out, T', F5, _, _, HT6.out, HI2.out, HKA6.out, HKS6.out, HU2.out, HFA5.out, HFS5.out, hBa⟩⟩
            case measure => simp [intOf]; omega
          · by_cases hk2 : kind = 2
            · subst hk2
              go_wp2_with fail
              rw [HQ2.out]
              have hba : Below wr.heap.size wr (wr.alloc (.cells #[.int .i64 2, .int .i64 a.area, .slice a.A ys.length a.cap, .int .i64 a.n, .int .i64 a.keep] 37)) := (Below.refl _ _).alloc (Nat.le_refl _) _
              have HBK := Lib.hid (Blk.new wr #[.int .i64 2, .int .i64 a.area, .slice a.A ys.length a.cap, .int .i64 a.n, .int .i64 a.keep] 37)
              have HT3 := Lib.hid (HT.out.below hba)
              have HBL3 := Lib.hid (HBL.out.trans (Below.up hba HT.out.size))
              have HKA3 := Lib.hid (HKA.out.below hba)
              have HKS3 := Lib.hid (HKS.out.below hba)
              have HNL : Hid (¬ F wr.heap.size) := Lib.hid fun f => by have := HT.out.lt _ f; omega
              clear hba hc0 hc1 hc2 hc3 hc4 HT HBL HX HKA HKS
              generalize wr.alloc _ = w3 at *
              obtain ⟨lb, hlb2⟩ : ∃ lb, lb = wr.heap.size := ⟨_, rfl⟩
              rw [← hlb2] at HBK HNL ⊢
              clear hlb2
              obtain ⟨T', hap, hI', hu'⟩ := HI.out.clear q hq
              have HAP := Lib.hid hap
              have HI2 := Lib.hid hI'
              have HU2 : Hid (T'.used ≤ lens (xs.take (k + 1))) := Lib.hid (by rw [HLEN.out]; have := HU.out; omega)
              clear hap hI' hu'
              refine (clear_any tb q T F w3 HT3.out.tape).mono ?_
              rw [HAP.out]
              rintro e w5 ⟨rfl, F5, ht5, hu5⟩
              have hT5 := HT3.out.upd ht5 hu5
              have HT5 := Lib.hid hT5.1
              have HBL5 := Lib.hid (HBL3.out.trans hT5.2)
              have HKA5 := Lib.hid (HKA3.out.fr hu5.fr HFA.out)
              have HKS5 := Lib.hid (HKS3.out.fr hu5.fr HFS.out)
              have HFA5 : Hid (¬ F5 ab) := Lib.hid fun f => (hu5.new _ f).elim HFA.out (fun h => by have := HKA3.out.lt; omega)
              have HFS5 : Hid (¬ F5 (ab + 1)) := Lib.hid fun f => (hu5.new _ f).elim HFS.out (fun h => by have := HKS3.out.lt; omega)
              clear ht5 hu5 hT5 HT3 HBL3 HKA3 HKS3 HBK HFA HFS HNL
              have hcq : w5.cell? ⟨ab, q, none⟩ = some (.string (all q)) := (HKA5.out.cell q).trans (two_get all q hq)
              have hfq : w5.frozen? ⟨ab, q, none⟩ = false := HKA5.out.free q
              have hcs : w5.cell? ⟨ab + 1, q, none⟩ = some (.string (sure q)) := (HKS5.out.cell q).trans (two_get sure q hq)
              have hfs : w5.frozen? ⟨ab + 1, q, none⟩ = false := HKS5.out.free q
              have lq : (q : Int) < 2 := by omega
              go_wp2_with fail
              clear hcq hfq hcs hfs
              have HT6 : Hid (Own B ((w5.setCell ⟨ab, q, none⟩ (.string ⟨#[]⟩)).setCell ⟨ab + 1, q, none⟩ (.string ⟨#[]⟩)) tb T' F5) := Lib.hid ((HT5.out.other _ _ HFA5.out).other _ _ HFS5.out)
              have HBL6 : Hid (Below B w ((w5.setCell ⟨ab, q, none⟩ (.string ⟨#[]⟩)).setCell ⟨ab + 1, q, none⟩ (.string ⟨#[]⟩))) := Lib.hid ((HBL5.out.setCell hBa _).setCell (Nat.le_succ_of_le hBa) _)
              have HKS6 : Hid (Blk ((w5.setCell ⟨ab, q, none⟩ (.string ⟨#[]⟩)).setCell ⟨ab + 1, q, none⟩ (.string ⟨#[]⟩)) (ab + 1) (two (upd sure q ⟨#[]⟩)) 46) := Lib.hid (by have := (HKS5.out.setOther ⟨ab, q, none⟩ (.string ⟨#[]⟩) (by show ab + 1 ≠ ab; omega)).set q (.string ⟨#[]⟩); rwa [two_set sure q _ hq] at this)
              have HKA6 : Hid (Blk ((w5.setCell ⟨ab, q, none⟩ (.string ⟨#[]⟩)).setCell ⟨ab + 1, q, none⟩ (.string ⟨#[]⟩)) ab (two (upd all q ⟨#[]⟩)) 46) := Lib.hid (by have := (HKA5.out.set q (.string ⟨#[]⟩)).setOther ⟨ab + 1, q, none⟩ (.string ⟨#[]⟩) (by show ab ≠ ab + 1; omega); rwa [two_set all q _ hq] at this)
              clear HT5 HBL5 HKA5 HKS5
              generalize (w5.setCell _ _).setCell _ _ = w6 at *
              go_wp2_with fail
              go_roundw
              case rel => exact ⟨k + 1, by omega, by go_num, Lib.hid ⟨HBL6.out, T', F5, _, _, HT6.out, HI2.out, HKA6.out, HKS6.out, HU2.out, HFA5.out, HFS5.out, hBa⟩⟩
              case measure => simp [intOf]; omega
            · go_wp2_with fail
              have hba : Below wr.heap.size wr (wr.alloc (.cells #[.int .i64 kind, .int .i64 a.area, .slice a.A ys.length a.cap, .int .i64 a.n, .int .i64 a.keep] 37)) := (Below.refl _ _).alloc (Nat.le_refl _) _
              go_roundw
              case rel => exact ⟨k + 1, by omega, by go_num, Lib.hid ⟨HBL.out.trans (Below.up hba HT.out.size), T, F, _, _, HT.out.below hba, HI.out, HKA.out.below hba, HKS.out.below hba, (by rw [HLEN.out]; have := HU.out; omega), HFA.out, HFS.out, hBa⟩⟩
              case measure => simp [intOf]; omega
      · obtain rfl : k = m := by omega
        have l1 : ¬ (k : Int) < (k : Int) := by omega
        go_wp2_with fail
        obtain ⟨T1, T2, hfl, hpw, hof, hrd⟩ := HI.out.fail HT.out.ok keep
        have HFL := Lib.hid hfl
        have HPW := Lib.hid hpw
        have HOF := Lib.hid hof
        have HRD := Lib.hid hrd
        clear hfl hpw hof hrd
        refine (fail_any tb keep T F wr HT.out.tape).mono ?_
        rw [HFL.out]
        rintro e w5 ⟨rfl, F5, ht5, hu5⟩
        have hT5 := HT.out.upd ht5 hu5
        have HT5 := Lib.hid hT5.1
        have HBL5 := Lib.hid (HBL.out.trans hT5.2)
        have HKA5 := Lib.hid (HKA.out.fr hu5.fr HFA.out)
        have HKS5 := Lib.hid (HKS.out.fr hu5.fr HFS.out)
        have HFA5 : Hid (¬ F5 ab) := Lib.hid fun f => (hu5.new _ f).elim HFA.out (fun h => by have := HKA.out.lt; omega)
        have HFS5 : Hid (¬ F5 (ab + 1)) := Lib.hid fun f => (hu5.new _ f).elim HFS.out (fun h => by have := HKS.out.lt; omega)
        clear ht5 hu5 hT5 HT HBL HKA HKS HFA HFS
        go_wp2_with fail
        refine (power_any tb T1 F5 w5 HT5.out.tape).mono ?_
        rw [HPW.out]
        rintro e wi ⟨rfl, ht6, hu6⟩
        have hT6 := HT5.out.upd ht6 hu6
        have HTi := Lib.hid hT6.1
        have HBLi := Lib.hid (HBL5.out.trans hT6.2)
        have HKAi := Lib.hid (HKA5.out.fr hu6.fr HFA5.out)
        have HKSi := Lib.hid (HKS5.out.fr hu6.fr HFS5.out)
        clear ht6 hu6 hT6 HT5 HBL5 HKA5 HKS5
        obtain ⟨Fi, hFi⟩ : ∃ Fi, Fi = F5 := ⟨_, rfl⟩
        rw [← hFi] at HTi
        clear hFi HFA5 HFS5
        go_wp2_with fail
        refine wp_loop_rounds 3 ?_
        rw [rounds_succ]
        go_wp2_with fail
        refine (read_at tb 0 T2 Fi wi HTi.out.tape 0 (fault_on HOF.out 0 (by omega))).mono ?_
        rintro e wj ⟨A1, c1, rfl, hrj, hbj, _⟩
        obtain ⟨sx, zs, z2, erd0, esu, eal⟩ := HRD.out 0 (by omega)
        have erd : T2.read 0 = sx ++ zs := erd0
        rw [erd] at hrj ⊢
        obtain ⟨ln, hln⟩ : ∃ ln, ln = (sx ++ zs).length := ⟨_, rfl⟩
        rw [← hln]
        have HC : Hid (∀ n, Sem.run Try.prog (convert 22 9 (.slice A1 ln c1)) (wj.drewN n) = .ok (.string (strB (sx ++ zs))) (wj.drewN n)) := Lib.hid fun n => run_str (w := wj.drewN n) (hrj.below (⟨rfl, rfl, rfl, Nat.le_refl _, fun _ _ => rfl⟩ : Below wj.heap.size wj (wj.drewN n))) ln c1 hln.symm
        have HTj := Lib.hid (HTi.out.below hbj)
        have HBLj := Lib.hid (HBLi.out.trans (Below.up hbj HTi.out.size))
        have HKAj := Lib.hid (HKAi.out.below hbj)
        have HKSj := Lib.hid (HKSi.out.below hbj)
        have hcs : wj.cell? ⟨ab + 1, 0, none⟩ = some (.string (strB sx)) := by rw [← esu]; exact (HKSj.out.cell 0).trans (two_get sure 0 (by omega))
        have hca : wj.cell? ⟨ab, 0, none⟩ = some (.string (strB (sx ++ zs ++ z2))) := by rw [← eal]; exact (HKAj.out.cell 0).trans (two_get all 0 (by omega))
        obtain ⟨str1, hs1⟩ : ∃ s, s = strB (sx ++ zs) := ⟨_, rfl⟩
        obtain ⟨str2, hs2⟩ : ∃ s, s = strB sx := ⟨_, rfl⟩
        obtain ⟨str3, hs3⟩ : ∃ s, s = strB (sx ++ zs ++ z2) := ⟨_, rfl⟩
        rw [← hs1] at HC
        rw [← hs2] at hcs
        rw [← hs3] at hca
        have HP1 : Hid (∀ W, Calls Try.prog 33 #[.string str1, .string str2] W fun e w' => e = .returned (.bool true) ∧ W = w') := Lib.hid fun W => by rw [hs1, hs2]; exact prefix_yes _ _ W
        have HP2 : Hid (∀ W, Calls Try.prog 33 #[.string str3, .string str1] W fun e w' => e = .returned (.bool true) ∧ W = w') := Lib.hid fun W => by rw [hs3, hs1]; exact prefix_yes _ _ W
        clear hs1 hs2 hs3 esu eal erd0 erd hrj hbj hln HTi HBLi HKAi HKSi
        clear sx zs z2
        go_wp2_with fail
        refine wp_region_phased (fun W => (∃ n, W = wj.drewN n) ∧ W.cell? ⟨ab + 1, 0, none⟩ = some (.string str2) ∧ W.cell? ⟨ab, 0, none⟩ = some (.string str3)) 20 (by kernel_rfl) ⟨⟨1, rfl⟩, hcs, hca⟩ (fun hS0 => ?_)
        refine wpAnyP_pure (v := ?_) 0 (at_toArray rfl) (by kernel_rfl) (by kernel_rfl) (by kernel_rfl) (fun _ _ _ h => h) (Or.inl ⟨by rfl, fun W => ?_⟩) ?_
        rotate_left 1
        · (go_simp <;> (try go_bits) <;> with_reducible rfl)
        simp only [Act.put, List.setIfInBounds_toArray, List.set_cons_zero, List.set_cons_succ]
        refine wpAnyP_pure (v := ?_) 1 (at_toArray rfl) (by kernel_rfl) (by kernel_rfl) (by kernel_rfl) (fun _ _ _ h => h) (Or.inl ⟨by rfl, fun W => ?_⟩) ?_
        rotate_left 1
        · (go_simp <;> (try go_bits) <;> with_reducible rfl)
        simp only [Act.put, List.setIfInBounds_toArray, List.set_cons_zero, List.set_cons_succ]
        refine wpAnyP_pure (v := ?_) 2 (at_toArray rfl) (by kernel_rfl) (by kernel_rfl) (by kernel_rfl) (fun _ _ _ h => h) (Or.inl ⟨by rfl, fun W => ?_⟩) ?_
        rotate_left 1
        · (go_simp <;> (try go_bits) <;> with_reducible rfl)
        simp only [Act.put, List.setIfInBounds_toArray, List.set_cons_zero, List.set_cons_succ]
        refine wpAnyP_pure (v := ?_) 3 (at_toArray rfl) (by kernel_rfl) (by kernel_rfl) (by kernel_rfl) (fun _ _ _ h => h) (Or.inl ⟨by rfl, fun W => ?_⟩) ?_
        rotate_left 1
        · (go_simp <;> (try go_bits) <;> with_reducible rfl)
        simp only [Act.put, List.setIfInBounds_toArray, List.set_cons_zero, List.set_cons_succ]
        refine wpAnyP_load (v := ?_) 4 (by kernel_rfl) (at_toArray rfl) (by kernel_rfl) (by kernel_rfl) (by kernel_rfl) (fun _ _ _ h => h) (by assumption) (Or.inl ⟨by rfl, fun W hS => ?_⟩) ?_
        rotate_left 1
        · (obtain ⟨⟨n, rfl⟩, _⟩ := hS; have hc := HC.out n; go_simp <;> (try go_bits) <;> with_reducible rfl)
        simp only [Act.put, List.setIfInBounds_toArray, List.set_cons_zero, List.set_cons_succ]
        refine wpAnyP_pure (v := ?_) 5 (at_toArray rfl) (by kernel_rfl) (by kernel_rfl) (by kernel_rfl) (fun _ _ _ h => h) (Or.inl ⟨by rfl, fun W => ?_⟩) ?_
        rotate_left 1
        · (go_simp <;> (try go_bits) <;> with_reducible rfl)
        simp only [Act.put, List.setIfInBounds_toArray, List.set_cons_zero, List.set_cons_succ]
        refine wpAnyP_pure (v := ?_) 6 (at_toArray rfl) (by kernel_rfl) (by kernel_rfl) (by kernel_rfl) (fun _ _ _ h => h) (Or.inl ⟨by rfl, fun W => ?_⟩) ?_
        rotate_left 1
        · (go_simp <;> (try go_bits) <;> with_reducible rfl)
        simp only [Act.put, List.setIfInBounds_toArray, List.set_cons_zero, List.set_cons_succ]
        refine wpAnyP_load (v := ?_) 7 (by kernel_rfl) (at_toArray rfl) (by kernel_rfl) (by kernel_rfl) (by kernel_rfl) (fun _ _ _ h => h) (by first | assumption | rfl) (Or.inl ⟨by rfl, fun W hS => ?_⟩) ?_
        rotate_left 1
        · (obtain ⟨_, s1, s2⟩ := hS; go_simp <;> (try go_bits) <;> with_reducible rfl)
        simp only [Act.put, List.setIfInBounds_toArray, List.set_cons_zero, List.set_cons_succ]
        refine wpAnyP_oneG 8 (at_toArray rfl) (by kernel_rfl) (by rfl) (fun K hK => ?_)
        go_wp2_with fail
        refine (HP1.out _).mono ?_
        rintro e w' ⟨rfl, rfl⟩
        go_wp2_with fail
        refine hK.out _ _ (fun _ h => h) ?_
        clear hK
        refine wpAnyP_pure (v := ?_) 9 (at_toArray rfl) (by kernel_rfl) (by kernel_rfl) (by kernel_rfl) (fun _ _ _ h => h) (Or.inl ⟨by rfl, fun W => ?_⟩) ?_
        rotate_left 1
        · (go_simp <;> (try go_bits) <;> with_reducible rfl)
        simp only [Act.put, List.setIfInBounds_toArray, List.set_cons_zero, List.set_cons_succ]
        refine wpAnyP_pure (v := ?_) 10 (at_toArray rfl) (by kernel_rfl) (by kernel_rfl) (by kernel_rfl) (fun _ _ _ h => h) (Or.inl ⟨by rfl, fun W => ?_⟩) ?_
        rotate_left 1
        · (go_simp <;> (try go_bits) <;> with_reducible rfl)
        simp only [Act.put, List.setIfInBounds_toArray, List.set_cons_zero, List.set_cons_succ]
        refine wpAnyP_pure (v := ?_) 11 (at_toArray rfl) (by kernel_rfl) (by kernel_rfl) (by kernel_rfl) (fun _ _ _ h => h) (Or.inl ⟨by rfl, fun W => ?_⟩) ?_
        rotate_left 1
        · (go_simp <;> (try go_bits) <;> with_reducible rfl)
        simp only [Act.put, List.setIfInBounds_toArray, List.set_cons_zero, List.set_cons_succ]
        refine wpAnyP_pure (v := ?_) 12 (at_toArray rfl) (by kernel_rfl) (by kernel_rfl) (by kernel_rfl) (fun _ _ _ h => h) (Or.inl ⟨by rfl, fun W => ?_⟩) ?_
        rotate_left 1
        · (go_simp <;> (try go_bits) <;> with_reducible rfl)
        simp only [Act.put, List.setIfInBounds_toArray, List.set_cons_zero, List.set_cons_succ]
        refine wpAnyP_pure (v := ?_) 13 (at_toArray rfl) (by kernel_rfl) (by kernel_rfl) (by kernel_rfl) (fun _ _ _ h => h) (Or.inl ⟨by rfl, fun W => ?_⟩) ?_
        rotate_left 1
        · (go_simp <;> (try go_bits) <;> with_reducible rfl)
        simp only [Act.put, List.setIfInBounds_toArray, List.set_cons_zero, List.set_cons_succ]
        refine wpAnyP_load (v := ?_) 14 (by kernel_rfl) (at_toArray rfl) (by kernel_rfl) (by kernel_rfl) (by kernel_rfl) (fun _ _ _ h => h) (by first | assumption | rfl) (Or.inl ⟨by rfl, fun W hS => ?_⟩) ?_
        rotate_left 1
        · (obtain ⟨_, s1, s2⟩ := hS; go_simp <;> (try go_bits) <;> with_reducible rfl)
        simp only [Act.put, List.setIfInBounds_toArray, List.set_cons_zero, List.set_cons_succ]
        refine wpAnyP_pure (v := ?_) 15 (at_toArray rfl) (by kernel_rfl) (by kernel_rfl) (by kernel_rfl) (fun _ _ _ h => h) (Or.inl ⟨by rfl, fun W => ?_⟩) ?_
        rotate_left 1
        · (go_simp <;> (try go_bits) <;> with_reducible rfl)
        simp only [Act.put, List.setIfInBounds_toArray, List.set_cons_zero, List.set_cons_succ]
        refine wpAnyP_load (v := ?_) 16 (by kernel_rfl) (at_toArray rfl) (by kernel_rfl) (by kernel_rfl) (by kernel_rfl) (fun _ _ _ h => h) (by assumption) (Or.inl ⟨by rfl, fun W hS => ?_⟩) ?_
        rotate_left 1
        · (obtain ⟨⟨n, rfl⟩, _⟩ := hS; have hc := HC.out n; go_simp <;> (try go_bits) <;> with_reducible rfl)
        simp only [Act.put, List.setIfInBounds_toArray, List.set_cons_zero, List.set_cons_succ]
        refine wpAnyP_oneG 17 (at_toArray rfl) (by kernel_rfl) (by rfl) (fun K hK => ?_)
        go_wp2_with fail
        refine (HP2.out _).mono ?_
        rintro e w' ⟨rfl, rfl⟩
        go_wp2_with fail
        refine hK.out _ _ (fun _ h => h) ?_
        clear hK
        refine wpAnyP_pure (v := ?_) 18 (at_toArray rfl) (by kernel_rfl) (by kernel_rfl) (by kernel_rfl) (fun _ _ _ h => h) (Or.inl ⟨by rfl, fun W => ?_⟩) ?_
        rotate_left 1
        · (go_simp <;> (try go_bits) <;> with_reducible rfl)
        simp only [Act.put, List.setIfInBounds_toArray, List.set_cons_zero, List.set_cons_succ]
        refine wpAnyP_pure (v := ?_) 19 (at_toArray rfl) (by kernel_rfl) (by kernel_rfl) (by kernel_rfl) (fun _ _ _ h => h) (Or.inl ⟨by rfl, fun W => ?_⟩) ?_
        rotate_left 1
        · (go_simp <;> (try go_bits) <;> with_reducible rfl)
        simp only [Act.put, List.setIfInBounds_toArray, List.set_cons_zero, List.set_cons_succ]
        refine wpAnyP_done (by kernel_rfl) ?_ _
        clear hS0 hcs hca HC HP1 HP2
        have HTi : Hid (Own B wj.drew tb T2 Fi) := HTj.out.below (Below.refl _ _).drew
        have HBLi : Hid (Below B w wj.drew) := HBLj.out.drew
        have HKAi : Hid (Blk wj.drew ab (two all) 46) := HKAj
        have HKSi : Hid (Blk wj.drew (ab + 1) (two sure) 46) := HKSj
        clear HTj HBLj HKAj HKSj
        generalize wj.drew = wi at *
        go_wp2_with fail
        rw [rounds_succ]
        go_wp2_with fail
        refine (read_at tb 1 T2 Fi wi HTi.out.tape 0 (fault_on HOF.out 1 (by omega))).mono ?_
        rintro e wj ⟨A1, c1, rfl, hrj, hbj, _⟩
        obtain ⟨sx, zs, z2, erd0, esu, eal⟩ := HRD.out 1 (by omega)
        have erd : T2.read 1 = sx ++ zs := erd0
        rw [erd] at hrj ⊢
        obtain ⟨ln, hln⟩ : ∃ ln, ln = (sx ++ zs).length := ⟨_, rfl⟩
        rw [← hln]
        have HC : Hid (∀ n, Sem.run Try.prog (convert 22 9 (.slice A1 ln c1)) (wj.drewN n) = .ok (.string (strB (sx ++ zs))) (wj.drewN n)) := Lib.hid fun n => run_str (w := wj.drewN n) (hrj.below (⟨rfl, rfl, rfl, Nat.le_refl _, fun _ _ => rfl⟩ : Below wj.heap.size wj (wj.drewN n))) ln c1 hln.symm
        have HTj := Lib.hid (HTi.out.below hbj)
        have HBLj := Lib.hid (HBLi.out.trans (Below.up hbj HTi.out.size))
        have HKAj := Lib.hid (HKAi.out.below hbj)
        have HKSj := Lib.hid (HKSi.out.below hbj)
        have hcs : wj.cell? ⟨ab + 1, 1, none⟩ = some (.string (strB sx)) := by rw [← esu]; exact (HKSj.out.cell 1).trans (two_get sure 1 (by omega))
        have hca : wj.cell? ⟨ab, 1, none⟩ = some (.string (strB (sx ++ zs ++ z2))) := by rw [← eal]; exact (HKAj.out.cell 1).trans (two_get all 1 (by omega))
        obtain ⟨str1, hs1⟩ : ∃ s, s = strB (sx ++ zs) := ⟨_, rfl⟩
        obtain ⟨str2, hs2⟩ : ∃ s, s = strB sx := ⟨_, rfl⟩
        obtain ⟨str3, hs3⟩ : ∃ s, s = strB (sx ++ zs ++ z2) := ⟨_, rfl⟩
        rw [← hs1] at HC
        rw [← hs2] at hcs
        rw [← hs3] at hca
        have HP1 : Hid (∀ W, Calls Try.prog 33 #[.string str1, .string str2] W fun e w' => e = .returned (.bool true) ∧ W = w') := Lib.hid fun W => by rw [hs1, hs2]; exact prefix_yes _ _ W
        have HP2 : Hid (∀ W, Calls Try.prog 33 #[.string str3, .string str1] W fun e w' => e = .returned (.bool true) ∧ W = w') := Lib.hid fun W => by rw [hs3, hs1]; exact prefix_yes _ _ W
        clear hs1 hs2 hs3 esu eal erd0 erd hrj hbj hln HTi HBLi HKAi HKSi
        clear sx zs z2
        go_wp2_with fail
        refine wp_region_phased (fun W => (∃ n, W = wj.drewN n) ∧ W.cell? ⟨ab + 1, 1, none⟩ = some (.string str2) ∧ W.cell? ⟨ab, 1, none⟩ = some (.string str3)) 20 (by kernel_rfl) ⟨⟨1, rfl⟩, hcs, hca⟩ (fun hS0 => ?_)
        refine wpAnyP_pure (v := ?_) 0 (at_toArray rfl) (by kernel_rfl) (by kernel_rfl) (by kernel_rfl) (fun _ _ _ h => h) (Or.inl ⟨by rfl, fun W => ?_⟩) ?_
        rotate_left 1
        · (go_simp <;> (try go_bits) <;> with_reducible rfl)
        simp only [Act.put, List.setIfInBounds_toArray, List.set_cons_zero, List.set_cons_succ]
        refine wpAnyP_pure (v := ?_) 1 (at_toArray rfl) (by kernel_rfl) (by kernel_rfl) (by kernel_rfl) (fun _ _ _ h => h) (Or.inl ⟨by rfl, fun W => ?_⟩) ?_
        rotate_left 1
        · (go_simp <;> (try go_bits) <;> with_reducible rfl)
        simp only [Act.put, List.setIfInBounds_toArray, List.set_cons_zero, List.set_cons_succ]
        refine wpAnyP_pure (v := ?_) 2 (at_toArray rfl) (by kernel_rfl) (by kernel_rfl) (by kernel_rfl) (fun _ _ _ h => h) (Or.inl ⟨by rfl, fun W => ?_⟩) ?_
        rotate_left 1
        · (go_simp <;> (try go_bits) <;> with_reducible rfl)
        simp only [Act.put, List.setIfInBounds_toArray, List.set_cons_zero, List.set_cons_succ]
        refine wpAnyP_pure (v := ?_) 3 (at_toArray rfl) (by kernel_rfl) (by kernel_rfl) (by kernel_rfl) (fun _ _ _ h => h) (Or.inl ⟨by rfl, fun W => ?_⟩) ?_
        rotate_left 1
        · (go_simp <;> (try go_bits) <;> with_reducible rfl)
        simp only [Act.put, List.setIfInBounds_toArray, List.set_cons_zero, List.set_cons_succ]
        refine wpAnyP_load (v := ?_) 4 (by kernel_rfl) (at_toArray rfl) (by kernel_rfl) (by kernel_rfl) (by kernel_rfl) (fun _ _ _ h => h) (by assumption) (Or.inl ⟨by rfl, fun W hS => ?_⟩) ?_
        rotate_left 1
        · (obtain ⟨⟨n, rfl⟩, _⟩ := hS; have hc := HC.out n; go_simp <;> (try go_bits) <;> with_reducible rfl)
        simp only [Act.put, List.setIfInBounds_toArray, List.set_cons_zero, List.set_cons_succ]
        refine wpAnyP_pure (v := ?_) 5 (at_toArray rfl) (by kernel_rfl) (by kernel_rfl) (by kernel_rfl) (fun _ _ _ h => h) (Or.inl ⟨by rfl, fun W => ?_⟩) ?_
        rotate_left 1
        · (go_simp <;> (try go_bits) <;> with_reducible rfl)
        simp only [Act.put, List.setIfInBounds_toArray, List.set_cons_zero, List.set_cons_succ]
        refine wpAnyP_pure (v := ?_) 6 (at_toArray rfl) (by kernel_rfl) (by kernel_rfl) (by kernel_rfl) (fun _ _ _ h => h) (Or.inl ⟨by rfl, fun W => ?_⟩) ?_
        rotate_left 1
        · (go_simp <;> (try go_bits) <;> with_reducible rfl)
        simp only [Act.put, List.setIfInBounds_toArray, List.set_cons_zero, List.set_cons_succ]
        refine wpAnyP_load (v := ?_) 7 (by kernel_rfl) (at_toArray rfl) (by kernel_rfl) (by kernel_rfl) (by kernel_rfl) (fun _ _ _ h => h) (by first | assumption | rfl) (Or.inl ⟨by rfl, fun W hS => ?_⟩) ?_
        rotate_left 1
        · (obtain ⟨_, s1, s2⟩ := hS; go_simp <;> (try go_bits) <;> with_reducible rfl)
        simp only [Act.put, List.setIfInBounds_toArray, List.set_cons_zero, List.set_cons_succ]
        refine wpAnyP_oneG 8 (at_toArray rfl) (by kernel_rfl) (by rfl) (fun K hK => ?_)
        go_wp2_with fail
        refine (HP1.out _).mono ?_
        rintro e w' ⟨rfl, rfl⟩
        go_wp2_with fail
        refine hK.out _ _ (fun _ h => h) ?_
        clear hK
        refine wpAnyP_pure (v := ?_) 9 (at_toArray rfl) (by kernel_rfl) (by kernel_rfl) (by kernel_rfl) (fun _ _ _ h => h) (Or.inl ⟨by rfl, fun W => ?_⟩) ?_
        rotate_left 1
        · (go_simp <;> (try go_bits) <;> with_reducible rfl)
        simp only [Act.put, List.setIfInBounds_toArray, List.set_cons_zero, List.set_cons_succ]
        refine wpAnyP_pure (v := ?_) 10 (at_toArray rfl) (by kernel_rfl) (by kernel_rfl) (by kernel_rfl) (fun _ _ _ h => h) (Or.inl ⟨by rfl, fun W => ?_⟩) ?_
        rotate_left 1
        · (go_simp <;> (try go_bits) <;> with_reducible rfl)
        simp only [Act.put, List.setIfInBounds_toArray, List.set_cons_zero, List.set_cons_succ]
        refine wpAnyP_pure (v := ?_) 11 (at_toArray rfl) (by kernel_rfl) (by kernel_rfl) (by kernel_rfl) (fun _ _ _ h => h) (Or.inl ⟨by rfl, fun W => ?_⟩) ?_
        rotate_left 1
        · (go_simp <;> (try go_bits) <;> with_reducible rfl)
        simp only [Act.put, List.setIfInBounds_toArray, List.set_cons_zero, List.set_cons_succ]
        refine wpAnyP_pure (v := ?_) 12 (at_toArray rfl) (by kernel_rfl) (by kernel_rfl) (by kernel_rfl) (fun _ _ _ h => h) (Or.inl ⟨by rfl, fun W => ?_⟩) ?_
        rotate_left 1
        · (go_simp <;> (try go_bits) <;> with_reducible rfl)
        simp only [Act.put, List.setIfInBounds_toArray, List.set_cons_zero, List.set_cons_succ]
        refine wpAnyP_pure (v := ?_) 13 (at_toArray rfl) (by kernel_rfl) (by kernel_rfl) (by kernel_rfl) (fun _ _ _ h => h) (Or.inl ⟨by rfl, fun W => ?_⟩) ?_
        rotate_left 1
        · (go_simp <;> (try go_bits) <;> with_reducible rfl)
        simp only [Act.put, List.setIfInBounds_toArray, List.set_cons_zero, List.set_cons_succ]
        refine wpAnyP_load (v := ?_) 14 (by kernel_rfl) (at_toArray rfl) (by kernel_rfl) (by kernel_rfl) (by kernel_rfl) (fun _ _ _ h => h) (by first | assumption | rfl) (Or.inl ⟨by rfl, fun W hS => ?_⟩) ?_
        rotate_left 1
        · (obtain ⟨_, s1, s2⟩ := hS; go_simp <;> (try go_bits) <;> with_reducible rfl)
        simp only [Act.put, List.setIfInBounds_toArray, List.set_cons_zero, List.set_cons_succ]
        refine wpAnyP_pure (v := ?_) 15 (at_toArray rfl) (by kernel_rfl) (by kernel_rfl) (by kernel_rfl) (fun _ _ _ h => h) (Or.inl ⟨by rfl, fun W => ?_⟩) ?_
        rotate_left 1
        · (go_simp <;> (try go_bits) <;> with_reducible rfl)
        simp only [Act.put, List.setIfInBounds_toArray, List.set_cons_zero, List.set_cons_succ]
        refine wpAnyP_load (v := ?_) 16 (by kernel_rfl) (at_toArray rfl) (by kernel_rfl) (by kernel_rfl) (by kernel_rfl) (fun _ _ _ h => h) (by assumption) (Or.inl ⟨by rfl, fun W hS => ?_⟩) ?_
        rotate_left 1
        · (obtain ⟨⟨n, rfl⟩, _⟩ := hS; have hc := HC.out n; go_simp <;> (try go_bits) <;> with_reducible rfl)
        simp only [Act.put, List.setIfInBounds_toArray, List.set_cons_zero, List.set_cons_succ]
        refine wpAnyP_oneG 17 (at_toArray rfl) (by kernel_rfl) (by rfl) (fun K hK => ?_)
        go_wp2_with fail
        refine (HP2.out _).mono ?_
        rintro e w' ⟨rfl, rfl⟩
        go_wp2_with fail
        refine hK.out _ _ (fun _ h => h) ?_
        clear hK
        refine wpAnyP_pure (v := ?_) 18 (at_toArray rfl) (by kernel_rfl) (by kernel_rfl) (by kernel_rfl) (fun _ _ _ h => h) (Or.inl ⟨by rfl, fun W => ?_⟩) ?_
        rotate_left 1
        · (go_simp <;> (try go_bits) <;> with_reducible rfl)
        simp only [Act.put, List.setIfInBounds_toArray, List.set_cons_zero, List.set_cons_succ]
        refine wpAnyP_pure (v := ?_) 19 (at_toArray rfl) (by kernel_rfl) (by kernel_rfl) (by kernel_rfl) (fun _ _ _ h => h) (Or.inl ⟨by rfl, fun W => ?_⟩) ?_
        rotate_left 1
        · (go_simp <;> (try go_bits) <;> with_reducible rfl)
        simp only [Act.put, List.setIfInBounds_toArray, List.set_cons_zero, List.set_cons_succ]
        refine wpAnyP_done (by kernel_rfl) ?_ _
        clear hS0 hcs hca HC HP1 HP2
        have HTi : Hid (Own B wj.drew tb T2 Fi) := HTj.out.below (Below.refl _ _).drew
        have HBLi : Hid (Below B w wj.drew) := HBLj.out.drew
        have HKAi : Hid (Blk wj.drew ab (two all) 46) := HKAj
        have HKSi : Hid (Blk wj.drew (ab + 1) (two sure) 46) := HKSj
        clear HTj HBLj HKAj HKSj
        generalize wj.drew = wi at *
        go_wp2_with fail
        rw [rounds_succ]
        go_wp2_with fail
        refine (lives_true _).mono ?_
        rintro e w3 ⟨rfl, hb⟩
        go_wp2_with fail
        go_ret
        exact ⟨rfl, HBLi.out.trans (Below.up hb HTi.out.size)⟩

end Go.Proofs.Ytnkenkdglcmpdaa
