/- The walk of both: an act is done to a tape and to the document's. -/
import Derived.Test.YtnkenkdglcmpdaaTapeU
namespace Go.Proofs.Ytnkenkdglcmpdaa
set_option linter.unusedVariables false
set_option linter.unusedSimpArgs false
open Go.RowKit

/-- A tape that has T, the document's that has U; all of their blocks at B or behind it, none common. -/
structure Pair (B : Nat) (w : World) (tb rb : Nat) (T U : TS) (F G : Nat → Prop) : Prop where
  tape : TapeR w tb T F
  ref : RefR w rb U G
  apart : ∀ k, F k → ¬ G k
  fB : ∀ k, F k → B ≤ k
  gB : ∀ k, G k → B ≤ k
  size : B ≤ w.heap.size
section
variable {B : Nat} {w w' : World} {tb rb : Nat} {T U T' : TS} {F G F' : Nat → Prop}
theorem Pair.flt (h : Pair B w tb rb T U F G) : ∀ k, F k → k < w.heap.size := by obtain ⟨_, _, _, t⟩ := h.tape; exact t.flt
theorem Pair.glt (h : Pair B w tb rb T U F G) : ∀ k, G k → k < w.heap.size := by obtain ⟨_, _, _, _, t⟩ := h.ref; exact t.flt
theorem Pair.below (h : Pair B w tb rb T U F G) (hb : Below w.heap.size w w') : Pair B w' tb rb T U F G := ⟨h.tape.below hb, h.ref.below hb, h.apart, h.fB, h.gB, Nat.le_trans h.size hb.size⟩
theorem Pair.updT (h : Pair B w tb rb T U F G) (ht : TapeR w' tb T' F') (hu : Upd w w' F F') : Pair B w' tb rb T' U F' G ∧ Below B w w' :=
  ⟨⟨ht, h.ref.fr hu.fr (fun k hk hf => h.apart k hf hk), fun k hk hg => (hu.new k hk).elim (fun f => h.apart k f hg) (fun hl => by have := h.glt k hg; omega), (upd_below hu h.size h.fB).2, h.gB, Nat.le_trans h.size hu.fr.size⟩, (upd_below hu h.size h.fB).1⟩
theorem Pair.updR (h : Pair B w tb rb T U F G) (hr : RefR w' rb T' F') (hu : Upd w w' G F') : Pair B w' tb rb T T' F F' ∧ Below B w w' :=
  ⟨⟨h.tape.fr hu.fr (fun k hk hg => h.apart k hk hg), hr, fun k hk hg => (hu.new k hg).elim (fun g => h.apart k hk g) (fun hl => by have := h.flt k hk; omega), h.fB, (upd_below hu h.size h.gB).2, Nat.le_trans h.size hu.fr.size⟩, (upd_below hu h.size h.gB).1⟩
theorem Pair.other (h : Pair B w tb rb T U F G) (a : Addr) (v : Value) (hf : ¬ F a.block) (hg : ¬ G a.block) : Pair B (w.setCell a v) tb rb T U F G := by
  have hfr : Fr (fun k => k = a.block) w (w.setCell a v) := Fr.setCell _ w a v rfl
  exact ⟨h.tape.fr hfr (fun k hk e => hf (e ▸ hk)), h.ref.fr hfr (fun k hk e => hg (e ▸ hk)), h.apart, h.fB, h.gB, Nat.le_trans h.size hfr.size⟩
end
def BothPost (B : Nat) (w : World) (tb rb : Nat) (e : Ending) (w' : World) : Prop := e = .returned (.bool true) ∧ Below B w w' ∧ ∃ T F G, Pair B w' tb rb T T F G
theorem next_u8 (x : UInt8) : ((x.toNat : Int) + 1) % 256 = ((x + 1).toNat : Int) := by
  rw [UInt8.toNat_add]
  have := x.toNat_lt
  show ((x.toNat : Int) + 1) % 256 = (((x.toNat + 1) % 256 : Nat) : Int)
  omega

set_option maxRecDepth 100000 in
set_option maxHeartbeats 8000000 in
theorem both_any (B : Nat) (tb rb : Nat) (T : TS) (F G : Nat → Prop) (a : ActV) (ys : List UInt8) (w : World) (h : Pair B w tb rb T T F G) (hn : a.n ≤ 9223372036854775807) (hl : ys.length = a.len) (h20 : ys.length ≤ 20000) (hx : RB w a.A ys) (hA : ∀ ad, a.A = some ad → 0 < ys.length → ad.block < B) :
    Calls Try.prog 35 #[.pointer (some ⟨tb, 0, none⟩), .pointer (some ⟨rb, 0, none⟩), .agg #[.int .i64 a.kind, .int .i64 a.area, .slice a.A a.len a.cap, .int .i64 a.n, .int .i64 a.keep]] w (BothPost B w tb rb) := by
  obtain ⟨kind, area, nn, keep, A, len, cap, zs⟩ := a
  simp only at hn hl hx hA ⊢
  subst hl
  obtain ⟨m, hm⟩ : ∃ m, m = ys.length := ⟨_, rfl⟩
  rw [← hm] at h20 ⊢
  have HM := Lib.hid hm
  have HX := Lib.hid hx
  have HA := Lib.hid hA
  obtain ⟨wa, hwa⟩ : ∃ wa, wa = w.alloc (.cells #[.int .i64 kind, .int .i64 area, .slice A m cap, .int .i64 nn, .int .i64 keep] 37) := ⟨_, rfl⟩
  have hba : Below w.heap.size w wa := by rw [hwa]; exact (Below.refl _ _).alloc (Nat.le_refl _) _
  have hbk : Blk wa w.heap.size #[.int .i64 kind, .int .i64 area, .slice A m cap, .int .i64 nn, .int .i64 keep] 37 := by rw [hwa]; exact Blk.new w _ _
  obtain ⟨lb, hlb⟩ : ∃ lb, lb = w.heap.size := ⟨_, rfl⟩
  have hBl : B ≤ lb := by rw [hlb]; exact h.size
  have hfl : ¬ F lb := fun f => by have := h.flt _ f; omega
  have hgl : ¬ G lb := fun f => by have := h.glt _ f; omega
  rw [← hlb] at hbk
  have HP := Lib.hid (h.below hba)
  have HBL := Lib.hid (Below.up hba h.size)
  have HBK := Lib.hid hbk
  have HX := Lib.hid (hx.below hba)
  have hc0 : wa.cell? ⟨lb, 0, none⟩ = some (.int .i64 kind) := hbk.cell 0
  have hc1 : wa.cell? ⟨lb, 1, none⟩ = some (.int .i64 area) := hbk.cell 1
  have hc2 : wa.cell? ⟨lb, 2, none⟩ = some (.slice A m cap) := hbk.cell 2
  have hc3 : wa.cell? ⟨lb, 3, none⟩ = some (.int .i64 nn) := hbk.cell 3
  have hc4 : wa.cell? ⟨lb, 4, none⟩ = some (.int .i64 keep) := hbk.cell 4
  have HFL := Lib.hid hfl
  have HGL := Lib.hid hgl
  have HWA := Lib.hid hwa
  have HLB := Lib.hid hlb
  clear h hm hx hA hba hbk hwa hlb hfl hgl
  by_cases hk0 : kind = 0
  · subst hk0
    have hwa := HWA.out
    have hlb := HLB.out
    subst hwa
    subst hlb
    clear HWA HLB
    obtain ⟨wa, hwa⟩ : ∃ wa, wa = w.alloc (.cells #[.int .i64 0, .int .i64 area, .slice A m cap, .int .i64 nn, .int .i64 keep] 37) := ⟨_, rfl⟩
    have hsz : wa.heap.size = w.heap.size + 1 := by rw [hwa]; simp
    rw [← hwa] at HP HBL HBK HX
    have HLO := Lib.hid (show OB (wa.alloc (.cells #[] 5)) (.slice (some ⟨wa.heap.size, 0, none⟩) 0 0) [] from OB.lit wa [] _ rfl (by decide))
    have HX9 := Lib.hid (HX.out.below ((Below.refl wa.heap.size wa).alloc (Nat.le_refl _) (.cells #[] 5)))
    have hkc : ∀ w1, (wa.alloc (.cells #[] 5)).grownBy w1 (Value.slice (some ⟨wa.heap.size, 0, none⟩) 0 0).ownBlock → w1.cell? ⟨w.heap.size, 1, none⟩ = some (.int .i64 area) := fun w1 hg => by
      have hb := ((Below.refl wa.heap.size wa).alloc (Nat.le_refl _) (.cells #[] 5)).grown hg (by simp) (fun k hk => by simp [Value.ownBlock] at hk; omega)
      exact (HBK.out.below hb).cell 1
    rw [hsz] at HLO hkc
    have HWA := Lib.hid hwa
    rw [hwa] at HLO HX9 hkc
    have HKC := Lib.hid hkc
    clear hkc
    have HSZ := Lib.hid hsz
    clear hwa hsz
    go_enter Try.func35, Try.ntmps35
    go_wp2_with (at_builtin; refine wpList_append_b rfl (.tmp 14) (.tmp 16) rfl (.slice (some ⟨w.heap.size + 1, 0, none⟩) 0 0) [] rfl HLO.out A cap ys (by rw [← HM.out]; rfl) HX9.out (by rw [← HM.out]; simp; omega) ?_; intro v w1 HO hg hat; have hd1 := HKC.out w1 hg)
    clear hd1 HKC
    rw [← HWA.out, ← HSZ.out] at hg hat
    have hfr : Fresh wa w1 v ys := clone_facts HO hg hat
    clear HO hg hat HLO HX9 HWA HSZ hc0 hc1 hc2 hc3 hc4
    obtain ⟨lb, hlb⟩ : ∃ lb, lb = w.heap.size := ⟨_, rfl⟩
    rw [← hlb] at HBK HFL HGL hBl ⊢
    clear hlb
    obtain ⟨Av, cv, rfl, hrv, hlc, hav⟩ := hfr.1.reads' (by rw [← HM.out]; omega)
    obtain ⟨⟨r, T2⟩, hap⟩ : ∃ r, T.append area ys = r := ⟨_, rfl⟩
    have HAP := Lib.hid hap
    have hna : ∀ ad, Av = some ad → 0 < ys.length → ¬ F ad.block := fun ad e _ f => by
      have h1 := hfr.2.2 _ (hav ad e)
      have h2 := HP.out.flt _ f
      omega
    have HPa := Lib.hid (HP.out.below hfr.2.1)
    have HBLa := Lib.hid (HBL.out.trans (Below.up hfr.2.1 HP.out.size))
    have HBKa := Lib.hid (HBK.out.below hfr.2.1)
    have HXa := Lib.hid (HX.out.below hfr.2.1)
    have HOWN : Hid (∀ k, (Value.slice Av ys.length cv).ownBlock = some k → ¬ F k ∧ ¬ G k ∧ k ≠ lb ∧ B ≤ k ∧ k < w1.heap.size) := Lib.hid fun k hk => by
      have h1 := hfr.2.2 k hk
      have h2 := hfr.1.lt k hk
      have h3 := HBK.out.lt
      exact ⟨fun f => by have := HP.out.flt _ f; omega, fun f => by have := HP.out.glt _ f; omega, by omega, Nat.le_trans HP.out.size h1, h2⟩
    have HOB := Lib.hid hfr.1
    have HNA := Lib.hid hna
    have HRV := Lib.hid hrv
    clear hap hna hfr hrv hlc hav HP HBL HBK HX
    refine (append_at tb area Av cv ys T F w1 _ HAP.out HPa.out.tape HRV.out HNA.out).mono ?_
    rintro e w2 ⟨rfl, F2, ht, hu⟩
    have hp2 := HPa.out.updT ht hu
    have HP2 := Lib.hid hp2.1
    have HBL2 := Lib.hid (HBLa.out.trans hp2.2)
    have HBK2 := Lib.hid (HBKa.out.fr hu.fr HFL.out)
    have HX2 := Lib.hid (HXa.out.fr2 hu.fr (fun ad e hx f => by have := HA.out ad e hx; have := HPa.out.fB _ f; omega))
    have HOB2 := Lib.hid (HOB.out.fr hu.fr (fun k hk => (HOWN.out k hk).1))
    have HOWN2 : Hid (∀ k, (Value.slice Av m cv).ownBlock = some k → ¬ F2 k ∧ ¬ G k ∧ k ≠ lb ∧ B ≤ k) := Lib.hid fun k hk => by
      rw [HM.out] at hk
      have h := HOWN.out k hk
      exact ⟨fun f => (hu.new k f).elim h.1 (fun h' => by omega), h.2.1, h.2.2.1, h.2.2.2.1⟩
    clear ht hu hp2 HPa HBLa HBKa HXa HOB HOWN HNA HRV
    rw [← HM.out] at HOB2 ⊢
    go_wp2_with fail
    go_loopw [25] (fun i wr => ∃ k : Nat, k ≤ m ∧ i = .int .i64 k ∧ Hid (Below B w wr) ∧ Hid (Pair B wr tb rb T2 T F2 G) ∧ Hid (Blk wr lb #[.int .i64 0, .int .i64 area, .slice A m cap, .int .i64 nn, .int .i64 keep] 37) ∧ Hid (RB wr A ys) ∧ ∃ zs : List UInt8, zs.length = m ∧ Hid (OB wr (.slice Av m cv) zs)) (fun i _ => m - (intOf i).toNat)
    case atStart => exact ⟨0, Nat.zero_le _, rfl, HBL2, HP2, HBK2, HX2, ys, HM.out.symm, HOB2⟩
    case round =>
      clear HBL2 HP2 HBK2 HX2 HOB2
      obtain ⟨k, hk, rfl, HBL, HP, HBK, HX, zs, hzl, HOB⟩ := hrel
      by_cases hlt : k < m
      · obtain ⟨g, c', hge, _⟩ := HOB.out.pos (by omega)
        simp only [Value.slice.injEq] at hge
        obtain ⟨rfl, hge2, rfl⟩ := hge
        clear hge2
        have l1 : (k : Int) < (m : Int) := by omega
        have hcx := HOB.out.cellAt k (by rw [hzl]; exact hlt)
        have hfx := HOB.out.frozenAt k
        obtain ⟨x, hxe⟩ : ∃ x, x = zs.getD k 0 := ⟨_, rfl⟩
        rw [← hxe] at hcx
        clear hxe
        have hg := HOWN2.out g rfl
        have hb3 : Below B w (wr.setCell ⟨g, k, none⟩ (.int .u8 ((x + 1).toNat : Int))) := HBL.out.setCell hg.2.2.2 _
        have hp3 := HP.out.other ⟨g, k, none⟩ (.int .u8 ((x + 1).toNat : Int)) hg.1 hg.2.1
        have hk3 := HBK.out.setOther ⟨g, k, none⟩ (.int .u8 ((x + 1).toNat : Int)) (fun e => hg.2.2.1 e.symm)
        have hx3 := HX.out.fr2 (Fr.setCell (fun i => i = g) wr ⟨g, k, none⟩ (.int .u8 ((x + 1).toNat : Int)) rfl) (fun ad e hx h' => by have := HA.out ad e hx; have := hg.2.2.2; omega)
        have ho3 := HOB.out.stored k (x + 1)
        have HB3 := Lib.hid hb3
        have HP3 := Lib.hid hp3
        have HK3 := Lib.hid hk3
        have HX3 := Lib.hid hx3
        have HO3 := Lib.hid ho3
        clear hg hb3 hp3 hk3 hx3 ho3
        go_wp2_with fail
        rw [next_u8]
        go_roundw
        case rel => exact ⟨k + 1, by omega, by go_num, HB3, HP3, HK3, HX3, zs.set k (x + 1), by rw [List.length_set]; exact hzl, HO3⟩
        case measure => simp [intOf]; omega
      · obtain rfl : k = m := by omega
        have l1 : ¬ (k : Int) < (k : Int) := by omega
        have hd1 : wr.cell? ⟨lb, 1, none⟩ = some (.int .i64 area) := HBK.out.cell 1
        have hd2 : wr.cell? ⟨lb, 2, none⟩ = some (.slice A k cap) := HBK.out.cell 2
        go_wp2_with fail
        rw [HM.out]
        refine (rappend_any rb area A cap ys T G wr HP.out.ref HX.out (fun ad e hx f => by have := HA.out ad e hx; have := HP.out.gB _ f; omega)).mono ?_
        rw [HAP.out]
        rintro e w3 ⟨rfl, G2, ht, hu⟩
        have hp3 := HP.out.updR ht hu
        have HP3 := Lib.hid hp3.1
        have HBL3 := Lib.hid (HBL.out.trans hp3.2)
        clear ht hu hp3 HP HBL HBK HX hd1 hd2 HOB
        go_wp2_with fail
        go_ret
        exact ⟨rfl, HBL3.out, T2, F2, G2, HP3.out⟩
  · by_cases hk1 : kind = 1
    · subst hk1
      go_enter Try.func35, Try.ntmps35
      go_wp2_with fail
      rw [← HWA.out, ← HLB.out]
      clear HWA HLB
      refine wp_region_phased (fun W => W.cell? ⟨lb, 1, none⟩ = some (.int .i64 area)) 10 (by kernel_rfl) hc1 (fun hS0 => ?_)
      refine wpAnyP_pure (v := ?_) 0 (at_toArray rfl) (by kernel_rfl) (by kernel_rfl) (by kernel_rfl) (fun _ _ _ h => h) (Or.inl ⟨by rfl, fun W => ?_⟩) ?_
      rotate_left 1
      · (go_simp <;> (try go_bits) <;> with_reducible rfl)
      simp only [Act.put, List.setIfInBounds_toArray, List.set_cons_zero, List.set_cons_succ]
      refine wpAnyP_pure (v := ?_) 1 (at_toArray rfl) (by kernel_rfl) (by kernel_rfl) (by kernel_rfl) (fun _ _ _ h => h) (Or.inl ⟨by rfl, fun W => ?_⟩) ?_
      rotate_left 1
      · (go_simp <;> (try go_bits) <;> with_reducible rfl)
      simp only [Act.put, List.setIfInBounds_toArray, List.set_cons_zero, List.set_cons_succ]
      refine wpAnyP_load (v := ?_) 2 (by kernel_rfl) (at_toArray rfl) (by kernel_rfl) (by kernel_rfl) (by kernel_rfl) (fun _ _ _ h => h) (by first | assumption | rfl) (Or.inl ⟨by rfl, fun W hS => ?_⟩) ?_
      rotate_left 1
      · (obtain f1 := hS; go_simp <;> (try go_bits) <;> with_reducible rfl)
      simp only [Act.put, List.setIfInBounds_toArray, List.set_cons_zero, List.set_cons_succ]
      refine wpAnyP_pure (v := ?_) 4 (at_toArray rfl) (by kernel_rfl) (by kernel_rfl) (by kernel_rfl) (fun _ _ _ h => h) (Or.inl ⟨by rfl, fun W => ?_⟩) ?_
      rotate_left 1
      · (go_simp <;> (try go_bits) <;> with_reducible rfl)
      simp only [Act.put, List.setIfInBounds_toArray, List.set_cons_zero, List.set_cons_succ]
      refine wpAnyP_pure (v := ?_) 5 (at_toArray rfl) (by kernel_rfl) (by kernel_rfl) (by kernel_rfl) (fun _ _ _ h => h) (Or.inl ⟨by rfl, fun W => ?_⟩) ?_
      rotate_left 1
      · (go_simp <;> (try go_bits) <;> with_reducible rfl)
      simp only [Act.put, List.setIfInBounds_toArray, List.set_cons_zero, List.set_cons_succ]
      refine wpAnyP_load (v := ?_) 6 (by kernel_rfl) (at_toArray rfl) (by kernel_rfl) (by kernel_rfl) (by kernel_rfl) (fun _ _ _ h => h) (by first | assumption | rfl) (Or.inl ⟨by rfl, fun W hS => ?_⟩) ?_
      rotate_left 1
      · (obtain f1 := hS; go_simp <;> (try go_bits) <;> with_reducible rfl)
      simp only [Act.put, List.setIfInBounds_toArray, List.set_cons_zero, List.set_cons_succ]
      refine wpAnyP_one 3 (at_toArray rfl) (by kernel_rfl) rfl (fun K hK => ?_)
      go_wp2_with fail
      refine (sync_any tb area T F _ (HP.out.below (Below.refl _ _).drew).tape).mono ?_
      rintro e w2 ⟨rfl, F2, ht, hu⟩
      have hp2 := (HP.out.below (Below.refl _ _).drew).updT ht hu
      have HP2 := Lib.hid hp2.1
      have HBL2 := Lib.hid (HBL.out.drew.trans hp2.2)
      have HBK2 := Lib.hid (HBK.out.drew.fr hu.fr HFL.out)
      clear ht hu hp2 HP HBL HBK
      go_wp2_with fail
      refine hK.out _ _ (fun _ _ => HBK2.out.cell 1) ?_
      clear hK hS0 hc0 hc1 hc2 hc3 hc4
      refine wpAnyP_one 7 (at_toArray rfl) (by kernel_rfl) rfl (fun K hK => ?_)
      go_wp2_with fail
      refine (rsync_any rb area T G _ HP2.out.ref).mono ?_
      rintro e w3 ⟨rfl, G2, ht, hu⟩
      have hp3 := HP2.out.updR ht hu
      have HP3 := Lib.hid hp3.1
      have HBL3 := Lib.hid (HBL2.out.trans hp3.2)
      have HBK3 := Lib.hid (HBK2.out.fr hu.fr HGL.out)
      clear ht hu hp3 HP2 HBL2 HBK2
      go_wp2_with fail
      refine hK.out _ _ (fun _ _ => HBK3.out.cell 1) ?_
      clear hK
      obtain ⟨⟨r, T2⟩, hr⟩ : ∃ r, r = T.sync area := ⟨_, rfl⟩
      rw [← hr] at HP3 ⊢
      clear hr
      refine wpAnyP_pure (v := ?_) 8 (at_toArray rfl) (by kernel_rfl) (by kernel_rfl) (by kernel_rfl) (fun _ _ _ h => h) (Or.inl ⟨by rfl, fun W => ?_⟩) ?_
      rotate_left 1
      · (go_simp <;> (try go_bits) <;> with_reducible rfl)
      simp only [Act.put, List.setIfInBounds_toArray, List.set_cons_zero, List.set_cons_succ]
      refine wpAnyP_pure (v := ?_) 9 (at_toArray rfl) (by kernel_rfl) (by kernel_rfl) (by kernel_rfl) (fun _ _ _ h => h) (Or.inl ⟨by rfl, fun W => ?_⟩) ?_
      rotate_left 1
      · (go_simp <;> (try go_bits) <;> with_reducible rfl)
      simp only [Act.put, List.setIfInBounds_toArray, List.set_cons_zero, List.set_cons_succ]
      refine wpAnyP_done (by kernel_rfl) ?_ _
      go_wp2_with fail
      go_ret
      exact ⟨rfl, HBL3.out, _, F2, G2, HP3.out⟩
    · by_cases hk2 : kind = 2
      · subst hk2
        go_enter Try.func35, Try.ntmps35
        go_wp2_with fail
        rw [← HWA.out, ← HLB.out]
        clear HWA HLB
        refine wp_region_phased (fun W => W.cell? ⟨lb, 1, none⟩ = some (.int .i64 area)) 10 (by kernel_rfl) hc1 (fun hS0 => ?_)
        refine wpAnyP_pure (v := ?_) 0 (at_toArray rfl) (by kernel_rfl) (by kernel_rfl) (by kernel_rfl) (fun _ _ _ h => h) (Or.inl ⟨by rfl, fun W => ?_⟩) ?_
        rotate_left 1
        · (go_simp <;> (try go_bits) <;> with_reducible rfl)
        simp only [Act.put, List.setIfInBounds_toArray, List.set_cons_zero, List.set_cons_succ]
        refine wpAnyP_pure (v := ?_) 1 (at_toArray rfl) (by kernel_rfl) (by kernel_rfl) (by kernel_rfl) (fun _ _ _ h => h) (Or.inl ⟨by rfl, fun W => ?_⟩) ?_
        rotate_left 1
        · (go_simp <;> (try go_bits) <;> with_reducible rfl)
        simp only [Act.put, List.setIfInBounds_toArray, List.set_cons_zero, List.set_cons_succ]
        refine wpAnyP_load (v := ?_) 2 (by kernel_rfl) (at_toArray rfl) (by kernel_rfl) (by kernel_rfl) (by kernel_rfl) (fun _ _ _ h => h) (by first | assumption | rfl) (Or.inl ⟨by rfl, fun W hS => ?_⟩) ?_
        rotate_left 1
        · (obtain f1 := hS; go_simp <;> (try go_bits) <;> with_reducible rfl)
        simp only [Act.put, List.setIfInBounds_toArray, List.set_cons_zero, List.set_cons_succ]
        refine wpAnyP_pure (v := ?_) 4 (at_toArray rfl) (by kernel_rfl) (by kernel_rfl) (by kernel_rfl) (fun _ _ _ h => h) (Or.inl ⟨by rfl, fun W => ?_⟩) ?_
        rotate_left 1
        · (go_simp <;> (try go_bits) <;> with_reducible rfl)
        simp only [Act.put, List.setIfInBounds_toArray, List.set_cons_zero, List.set_cons_succ]
        refine wpAnyP_pure (v := ?_) 5 (at_toArray rfl) (by kernel_rfl) (by kernel_rfl) (by kernel_rfl) (fun _ _ _ h => h) (Or.inl ⟨by rfl, fun W => ?_⟩) ?_
        rotate_left 1
        · (go_simp <;> (try go_bits) <;> with_reducible rfl)
        simp only [Act.put, List.setIfInBounds_toArray, List.set_cons_zero, List.set_cons_succ]
        refine wpAnyP_load (v := ?_) 6 (by kernel_rfl) (at_toArray rfl) (by kernel_rfl) (by kernel_rfl) (by kernel_rfl) (fun _ _ _ h => h) (by first | assumption | rfl) (Or.inl ⟨by rfl, fun W hS => ?_⟩) ?_
        rotate_left 1
        · (obtain f1 := hS; go_simp <;> (try go_bits) <;> with_reducible rfl)
        simp only [Act.put, List.setIfInBounds_toArray, List.set_cons_zero, List.set_cons_succ]
        refine wpAnyP_one 3 (at_toArray rfl) (by kernel_rfl) rfl (fun K hK => ?_)
        go_wp2_with fail
        refine (clear_any tb area T F _ (HP.out.below (Below.refl _ _).drew).tape).mono ?_
        rintro e w2 ⟨rfl, F2, ht, hu⟩
        have hp2 := (HP.out.below (Below.refl _ _).drew).updT ht hu
        have HP2 := Lib.hid hp2.1
        have HBL2 := Lib.hid (HBL.out.drew.trans hp2.2)
        have HBK2 := Lib.hid (HBK.out.drew.fr hu.fr HFL.out)
        clear ht hu hp2 HP HBL HBK
        go_wp2_with fail
        refine hK.out _ _ (fun _ _ => HBK2.out.cell 1) ?_
        clear hK hS0 hc0 hc1 hc2 hc3 hc4
        refine wpAnyP_one 7 (at_toArray rfl) (by kernel_rfl) rfl (fun K hK => ?_)
        go_wp2_with fail
        refine (rclear_any rb area T G _ HP2.out.ref).mono ?_
        rintro e w3 ⟨rfl, G2, ht, hu⟩
        have hp3 := HP2.out.updR ht hu
        have HP3 := Lib.hid hp3.1
        have HBL3 := Lib.hid (HBL2.out.trans hp3.2)
        have HBK3 := Lib.hid (HBK2.out.fr hu.fr HGL.out)
        clear ht hu hp3 HP2 HBL2 HBK2
        go_wp2_with fail
        refine hK.out _ _ (fun _ _ => HBK3.out.cell 1) ?_
        clear hK
        obtain ⟨⟨r, T2⟩, hr⟩ : ∃ r, r = T.clear area := ⟨_, rfl⟩
        rw [← hr] at HP3 ⊢
        clear hr
        refine wpAnyP_pure (v := ?_) 8 (at_toArray rfl) (by kernel_rfl) (by kernel_rfl) (by kernel_rfl) (fun _ _ _ h => h) (Or.inl ⟨by rfl, fun W => ?_⟩) ?_
        rotate_left 1
        · (go_simp <;> (try go_bits) <;> with_reducible rfl)
        simp only [Act.put, List.setIfInBounds_toArray, List.set_cons_zero, List.set_cons_succ]
        refine wpAnyP_pure (v := ?_) 9 (at_toArray rfl) (by kernel_rfl) (by kernel_rfl) (by kernel_rfl) (fun _ _ _ h => h) (Or.inl ⟨by rfl, fun W => ?_⟩) ?_
        rotate_left 1
        · (go_simp <;> (try go_bits) <;> with_reducible rfl)
        simp only [Act.put, List.setIfInBounds_toArray, List.set_cons_zero, List.set_cons_succ]
        refine wpAnyP_done (by kernel_rfl) ?_ _
        go_wp2_with fail
        go_ret
        exact ⟨rfl, HBL3.out, _, F2, G2, HP3.out⟩
      · by_cases hk3 : kind = 3
        · subst hk3
          go_enter Try.func35, Try.ntmps35
          go_wp2_with fail
          rw [← HWA.out, ← HLB.out]
          clear HWA HLB
          refine wp_region_phased (fun W => W.cell? ⟨lb, 3, none⟩ = some (.int .i64 nn) ∧ W.cell? ⟨lb, 4, none⟩ = some (.int .i64 keep)) 14 (by kernel_rfl) ⟨hc3, hc4⟩ (fun hS0 => ?_)
          refine wpAnyP_pure (v := ?_) 0 (at_toArray rfl) (by kernel_rfl) (by kernel_rfl) (by kernel_rfl) (fun _ _ _ h => h) (Or.inl ⟨by rfl, fun W => ?_⟩) ?_
          rotate_left 1
          · (go_simp <;> (try go_bits) <;> with_reducible rfl)
          simp only [Act.put, List.setIfInBounds_toArray, List.set_cons_zero, List.set_cons_succ]
          refine wpAnyP_pure (v := ?_) 1 (at_toArray rfl) (by kernel_rfl) (by kernel_rfl) (by kernel_rfl) (fun _ _ _ h => h) (Or.inl ⟨by rfl, fun W => ?_⟩) ?_
          rotate_left 1
          · (go_simp <;> (try go_bits) <;> with_reducible rfl)
          simp only [Act.put, List.setIfInBounds_toArray, List.set_cons_zero, List.set_cons_succ]
          refine wpAnyP_load (v := ?_) 2 (by kernel_rfl) (at_toArray rfl) (by kernel_rfl) (by kernel_rfl) (by kernel_rfl) (fun _ _ _ h => h) (by first | assumption | rfl) (Or.inl ⟨by rfl, fun W hS => ?_⟩) ?_
          rotate_left 1
          · (obtain ⟨f1, f2⟩ := hS; go_simp <;> (try go_bits) <;> with_reducible rfl)
          simp only [Act.put, List.setIfInBounds_toArray, List.set_cons_zero, List.set_cons_succ]
          refine wpAnyP_pure (v := ?_) 3 (at_toArray rfl) (by kernel_rfl) (by kernel_rfl) (by kernel_rfl) (fun _ _ _ h => h) (Or.inl ⟨by rfl, fun W => ?_⟩) ?_
          rotate_left 1
          · (go_simp <;> (try go_bits) <;> with_reducible rfl)
          simp only [Act.put, List.setIfInBounds_toArray, List.set_cons_zero, List.set_cons_succ]
          refine wpAnyP_load (v := ?_) 4 (by kernel_rfl) (at_toArray rfl) (by kernel_rfl) (by kernel_rfl) (by kernel_rfl) (fun _ _ _ h => h) (by first | assumption | rfl) (Or.inl ⟨by rfl, fun W hS => ?_⟩) ?_
          rotate_left 1
          · (obtain ⟨f1, f2⟩ := hS; go_simp <;> (try go_bits) <;> with_reducible rfl)
          simp only [Act.put, List.setIfInBounds_toArray, List.set_cons_zero, List.set_cons_succ]
          refine wpAnyP_pure (v := ?_) 6 (at_toArray rfl) (by kernel_rfl) (by kernel_rfl) (by kernel_rfl) (fun _ _ _ h => h) (Or.inl ⟨by rfl, fun W => ?_⟩) ?_
          rotate_left 1
          · (go_simp <;> (try go_bits) <;> with_reducible rfl)
          simp only [Act.put, List.setIfInBounds_toArray, List.set_cons_zero, List.set_cons_succ]
          refine wpAnyP_pure (v := ?_) 7 (at_toArray rfl) (by kernel_rfl) (by kernel_rfl) (by kernel_rfl) (fun _ _ _ h => h) (Or.inl ⟨by rfl, fun W => ?_⟩) ?_
          rotate_left 1
          · (go_simp <;> (try go_bits) <;> with_reducible rfl)
          simp only [Act.put, List.setIfInBounds_toArray, List.set_cons_zero, List.set_cons_succ]
          refine wpAnyP_load (v := ?_) 8 (by kernel_rfl) (at_toArray rfl) (by kernel_rfl) (by kernel_rfl) (by kernel_rfl) (fun _ _ _ h => h) (by first | assumption | rfl) (Or.inl ⟨by rfl, fun W hS => ?_⟩) ?_
          rotate_left 1
          · (obtain ⟨f1, f2⟩ := hS; go_simp <;> (try go_bits) <;> with_reducible rfl)
          simp only [Act.put, List.setIfInBounds_toArray, List.set_cons_zero, List.set_cons_succ]
          refine wpAnyP_pure (v := ?_) 9 (at_toArray rfl) (by kernel_rfl) (by kernel_rfl) (by kernel_rfl) (fun _ _ _ h => h) (Or.inl ⟨by rfl, fun W => ?_⟩) ?_
          rotate_left 1
          · (go_simp <;> (try go_bits) <;> with_reducible rfl)
          simp only [Act.put, List.setIfInBounds_toArray, List.set_cons_zero, List.set_cons_succ]
          refine wpAnyP_load (v := ?_) 10 (by kernel_rfl) (at_toArray rfl) (by kernel_rfl) (by kernel_rfl) (by kernel_rfl) (fun _ _ _ h => h) (by first | assumption | rfl) (Or.inl ⟨by rfl, fun W hS => ?_⟩) ?_
          rotate_left 1
          · (obtain ⟨f1, f2⟩ := hS; go_simp <;> (try go_bits) <;> with_reducible rfl)
          simp only [Act.put, List.setIfInBounds_toArray, List.set_cons_zero, List.set_cons_succ]
          refine wpAnyP_one 5 (at_toArray rfl) (by kernel_rfl) rfl (fun K hK => ?_)
          go_wp2_with fail
          refine (arm_any tb nn keep T F _ (HP.out.below (Below.refl _ _).drew).tape hn).mono ?_
          rintro e w2 ⟨rfl, F2, ht, hu⟩
          have hp2 := (HP.out.below (Below.refl _ _).drew).updT ht hu
          have HP2 := Lib.hid hp2.1
          have HBL2 := Lib.hid (HBL.out.drew.trans hp2.2)
          have HBK2 := Lib.hid (HBK.out.drew.fr hu.fr HFL.out)
          clear ht hu hp2 HP HBL HBK
          go_wp2_with fail
          refine hK.out _ _ (fun _ _ => ⟨HBK2.out.cell 3, HBK2.out.cell 4⟩) ?_
          clear hK hS0 hc0 hc1 hc2 hc3 hc4
          refine wpAnyP_one 11 (at_toArray rfl) (by kernel_rfl) rfl (fun K hK => ?_)
          go_wp2_with fail
          refine (rarm_any rb nn keep T G _ HP2.out.ref hn).mono ?_
          rintro e w3 ⟨rfl, G2, ht, hu⟩
          have hp3 := HP2.out.updR ht hu
          have HP3 := Lib.hid hp3.1
          have HBL3 := Lib.hid (HBL2.out.trans hp3.2)
          have HBK3 := Lib.hid (HBK2.out.fr hu.fr HGL.out)
          clear ht hu hp3 HP2 HBL2 HBK2
          go_wp2_with fail
          refine hK.out _ _ (fun _ _ => ⟨HBK3.out.cell 3, HBK3.out.cell 4⟩) ?_
          clear hK
          obtain ⟨⟨r, T2⟩, hr⟩ : ∃ r, r = T.arm nn keep := ⟨_, rfl⟩
          rw [← hr] at HP3 ⊢
          clear hr
          refine wpAnyP_pure (v := ?_) 12 (at_toArray rfl) (by kernel_rfl) (by kernel_rfl) (by kernel_rfl) (fun _ _ _ h => h) (Or.inl ⟨by rfl, fun W => ?_⟩) ?_
          rotate_left 1
          · (go_simp <;> (try go_bits) <;> with_reducible rfl)
          simp only [Act.put, List.setIfInBounds_toArray, List.set_cons_zero, List.set_cons_succ]
          refine wpAnyP_pure (v := ?_) 13 (at_toArray rfl) (by kernel_rfl) (by kernel_rfl) (by kernel_rfl) (fun _ _ _ h => h) (Or.inl ⟨by rfl, fun W => ?_⟩) ?_
          rotate_left 1
          · (go_simp <;> (try go_bits) <;> with_reducible rfl)
          simp only [Act.put, List.setIfInBounds_toArray, List.set_cons_zero, List.set_cons_succ]
          refine wpAnyP_done (by kernel_rfl) ?_ _
          go_wp2_with fail
          go_ret
          exact ⟨rfl, HBL3.out, _, F2, G2, HP3.out⟩
        · by_cases hk4 : kind = 4
          · subst hk4
            go_enter Try.func35, Try.ntmps35
            go_wp2_with fail
            rw [← HWA.out, ← HLB.out]
            clear HWA HLB
            refine wp_region_phased (fun W => W.cell? ⟨lb, 4, none⟩ = some (.int .i64 keep)) 10 (by kernel_rfl) hc4 (fun hS0 => ?_)
            refine wpAnyP_pure (v := ?_) 0 (at_toArray rfl) (by kernel_rfl) (by kernel_rfl) (by kernel_rfl) (fun _ _ _ h => h) (Or.inl ⟨by rfl, fun W => ?_⟩) ?_
            rotate_left 1
            · (go_simp <;> (try go_bits) <;> with_reducible rfl)
            simp only [Act.put, List.setIfInBounds_toArray, List.set_cons_zero, List.set_cons_succ]
            refine wpAnyP_pure (v := ?_) 1 (at_toArray rfl) (by kernel_rfl) (by kernel_rfl) (by kernel_rfl) (fun _ _ _ h => h) (Or.inl ⟨by rfl, fun W => ?_⟩) ?_
            rotate_left 1
            · (go_simp <;> (try go_bits) <;> with_reducible rfl)
            simp only [Act.put, List.setIfInBounds_toArray, List.set_cons_zero, List.set_cons_succ]
            refine wpAnyP_load (v := ?_) 2 (by kernel_rfl) (at_toArray rfl) (by kernel_rfl) (by kernel_rfl) (by kernel_rfl) (fun _ _ _ h => h) (by first | assumption | rfl) (Or.inl ⟨by rfl, fun W hS => ?_⟩) ?_
            rotate_left 1
            · (obtain f1 := hS; go_simp <;> (try go_bits) <;> with_reducible rfl)
            simp only [Act.put, List.setIfInBounds_toArray, List.set_cons_zero, List.set_cons_succ]
            refine wpAnyP_pure (v := ?_) 4 (at_toArray rfl) (by kernel_rfl) (by kernel_rfl) (by kernel_rfl) (fun _ _ _ h => h) (Or.inl ⟨by rfl, fun W => ?_⟩) ?_
            rotate_left 1
            · (go_simp <;> (try go_bits) <;> with_reducible rfl)
            simp only [Act.put, List.setIfInBounds_toArray, List.set_cons_zero, List.set_cons_succ]
            refine wpAnyP_pure (v := ?_) 5 (at_toArray rfl) (by kernel_rfl) (by kernel_rfl) (by kernel_rfl) (fun _ _ _ h => h) (Or.inl ⟨by rfl, fun W => ?_⟩) ?_
            rotate_left 1
            · (go_simp <;> (try go_bits) <;> with_reducible rfl)
            simp only [Act.put, List.setIfInBounds_toArray, List.set_cons_zero, List.set_cons_succ]
            refine wpAnyP_load (v := ?_) 6 (by kernel_rfl) (at_toArray rfl) (by kernel_rfl) (by kernel_rfl) (by kernel_rfl) (fun _ _ _ h => h) (by first | assumption | rfl) (Or.inl ⟨by rfl, fun W hS => ?_⟩) ?_
            rotate_left 1
            · (obtain f1 := hS; go_simp <;> (try go_bits) <;> with_reducible rfl)
            simp only [Act.put, List.setIfInBounds_toArray, List.set_cons_zero, List.set_cons_succ]
            refine wpAnyP_one 3 (at_toArray rfl) (by kernel_rfl) rfl (fun K hK => ?_)
            go_wp2_with fail
            refine (fail_any tb keep T F _ (HP.out.below (Below.refl _ _).drew).tape).mono ?_
            rintro e w2 ⟨rfl, F2, ht, hu⟩
            have hp2 := (HP.out.below (Below.refl _ _).drew).updT ht hu
            have HP2 := Lib.hid hp2.1
            have HBL2 := Lib.hid (HBL.out.drew.trans hp2.2)
            have HBK2 := Lib.hid (HBK.out.drew.fr hu.fr HFL.out)
            clear ht hu hp2 HP HBL HBK
            go_wp2_with fail
            refine hK.out _ _ (fun _ _ => HBK2.out.cell 4) ?_
            clear hK hS0 hc0 hc1 hc2 hc3 hc4
            refine wpAnyP_one 7 (at_toArray rfl) (by kernel_rfl) rfl (fun K hK => ?_)
            go_wp2_with fail
            refine (rfail_any rb keep T G _ HP2.out.ref).mono ?_
            rintro e w3 ⟨rfl, G2, ht, hu⟩
            have hp3 := HP2.out.updR ht hu
            have HP3 := Lib.hid hp3.1
            have HBL3 := Lib.hid (HBL2.out.trans hp3.2)
            have HBK3 := Lib.hid (HBK2.out.fr hu.fr HGL.out)
            clear ht hu hp3 HP2 HBL2 HBK2
            go_wp2_with fail
            refine hK.out _ _ (fun _ _ => HBK3.out.cell 4) ?_
            clear hK
            obtain ⟨⟨r, T2⟩, hr⟩ : ∃ r, r = T.fail keep := ⟨_, rfl⟩
            rw [← hr] at HP3 ⊢
            clear hr
            refine wpAnyP_pure (v := ?_) 8 (at_toArray rfl) (by kernel_rfl) (by kernel_rfl) (by kernel_rfl) (fun _ _ _ h => h) (Or.inl ⟨by rfl, fun W => ?_⟩) ?_
            rotate_left 1
            · (go_simp <;> (try go_bits) <;> with_reducible rfl)
            simp only [Act.put, List.setIfInBounds_toArray, List.set_cons_zero, List.set_cons_succ]
            refine wpAnyP_pure (v := ?_) 9 (at_toArray rfl) (by kernel_rfl) (by kernel_rfl) (by kernel_rfl) (fun _ _ _ h => h) (Or.inl ⟨by rfl, fun W => ?_⟩) ?_
            rotate_left 1
            · (go_simp <;> (try go_bits) <;> with_reducible rfl)
            simp only [Act.put, List.setIfInBounds_toArray, List.set_cons_zero, List.set_cons_succ]
            refine wpAnyP_done (by kernel_rfl) ?_ _
            go_wp2_with fail
            go_ret
            exact ⟨rfl, HBL3.out, _, F2, G2, HP3.out⟩
          · by_cases hk5 : kind = 5
            · subst hk5
              have hwa := HWA.out
              have hlb := HLB.out
              subst hwa
              subst hlb
              clear HWA HLB
              have hr5 := rdark_off HP.out.ref
              have hp5 := HP.out.updR hr5.1 hr5.2
              have HP5 := Lib.hid hp5.1
              have HBL5 := Lib.hid (HBL.out.trans hp5.2)
              have h5 : (w.alloc (.cells #[.int .i64 5, .int .i64 area, .slice A m cap, .int .i64 nn, .int .i64 keep] 37)).cell? ⟨rb, 5, none⟩ = some (.bool T.off) := by
                obtain ⟨l, k, u0, u1, h⟩ := HP.out.ref
                exact h.blk.cell 5
              have g5 : (w.alloc (.cells #[.int .i64 5, .int .i64 area, .slice A m cap, .int .i64 nn, .int .i64 keep] 37)).frozen? ⟨rb, 5, none⟩ = false := by
                obtain ⟨l, k, u0, u1, h⟩ := HP.out.ref
                exact h.blk.free 5
              clear hr5 hp5
              go_enter Try.func35, Try.ntmps35
              go_wp2_with fail
              clear h5 g5 hc0 hc1 hc2 hc3 hc4 HP HBL HBK HX
              generalize (w.alloc _).setCell _ _ = w2 at *
              refine (power_any tb T F w2 HP5.out.tape).mono ?_
              rintro e w3 ⟨rfl, ht, hu⟩
              have hp6 := HP5.out.updT ht hu
              have HP6 := Lib.hid hp6.1
              have HBL6 := Lib.hid (HBL5.out.trans hp6.2)
              clear ht hu hp6 HP5 HBL5
              go_wp2_with fail
              go_ret
              exact ⟨rfl, HBL6.out, _, F, G, HP6.out⟩
            · go_enter Try.func35, Try.ntmps35
              go_wp2_with fail
              rw [← HWA.out, ← HLB.out]
              clear HWA HLB
              go_wp2_with fail
              go_ret
              exact ⟨rfl, HBL.out, T, F, G, HP.out⟩

end Go.Proofs.Ytnkenkdglcmpdaa
