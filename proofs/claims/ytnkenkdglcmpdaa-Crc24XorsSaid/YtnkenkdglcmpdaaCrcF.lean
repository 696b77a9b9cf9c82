/- The walk of the law Crc24Xors. -/
import Derived.Test.YtnkenkdglcmpdaaCrcE
namespace Go.Proofs.Ytnkenkdglcmpdaa
set_option linter.unusedVariables false
set_option linter.unusedSimpArgs false
open Go.RowKit

attribute [local go_sem] max2_int min2_int max_two min_two min_four

def fold3 (f g h : Nat → UInt8) (m k : Nat) : List UInt8 := (List.range m).map fun i => if i < k then f i ^^^ g i ^^^ h i else 0
theorem fold3_zero (f g h : Nat → UInt8) (m : Nat) : fold3 f g h m 0 = List.replicate m 0 := by
  apply List.ext_getElem <;> simp [fold3]
theorem fold3_len (f g h : Nat → UInt8) (m k : Nat) : (fold3 f g h m k).length = m := by simp [fold3]
theorem fold3_set (f g h : Nat → UInt8) (m k : Nat) (hk : k < m) : (fold3 f g h m k).set k (f k ^^^ g k ^^^ h k) = fold3 f g h m (k + 1) := by
  apply List.ext_getElem
  · simp [fold3]
  · intro i h1 h2
    simp only [fold3, List.getElem_set, List.getElem_map, List.getElem_range]
    by_cases e : k = i
    · subst e; simp
    · rw [if_neg e]
      by_cases l : i < k
      · rw [if_pos l, if_pos (by omega)]
      · rw [if_neg l, if_neg (by omega)]
theorem fold3_end (f g h : Nat → UInt8) (m : Nat) : fold3 f g h m m = (List.range m).map fun i => f i ^^^ g i ^^^ h i := by
  apply List.map_congr_left
  intro i hi
  rw [if_pos (by simpa using hi)]
theorem xor6 (a b c d e f : B24) : a ^^^ b ^^^ c ^^^ (d ^^^ e ^^^ f) = a ^^^ d ^^^ (b ^^^ e) ^^^ (c ^^^ f) := by ac_rfl
theorem bys_xor3 (s1 s2 s3 : B24) (x y z : UInt8) : bys (s1 ^^^ s2 ^^^ s3) (x ^^^ y ^^^ z) = bys s1 x ^^^ bys s2 y ^^^ bys s3 z := by
  unfold bys
  rw [← bsts_xor, ← bsts_xor]
  congr 1
  have e : BitVec.ofNat 24 (x ^^^ y ^^^ z).toNat = BitVec.ofNat 24 x.toNat ^^^ BitVec.ofNat 24 y.toNat ^^^ BitVec.ofNat 24 z.toNat := by
    apply BitVec.eq_of_toNat_eq
    have h1 := x.toNat_lt
    have h2 := y.toNat_lt
    have h3 := z.toNat_lt
    have h4 := (x ^^^ y ^^^ z).toNat_lt
    simp only [BitVec.toNat_xor, BitVec.toNat_ofNat, UInt8.toNat_xor] at h4 ⊢
    rw [Nat.mod_eq_of_lt (by omega), Nat.mod_eq_of_lt (by omega), Nat.mod_eq_of_lt (by omega), Nat.mod_eq_of_lt (by omega)]
  rw [e, BitVec.shiftLeft_xor_distrib, BitVec.shiftLeft_xor_distrib]
  exact xor6 _ _ _ _ _ _
theorem crc_xor3 (f g h : Nat → UInt8) (s1 s2 s3 : B24) : ∀ m, crcN (s1 ^^^ s2 ^^^ s3) ((List.range m).map fun i => f i ^^^ g i ^^^ h i) = crcN s1 ((List.range m).map f) ^^^ crcN s2 ((List.range m).map g) ^^^ crcN s3 ((List.range m).map h)
  | 0 => rfl
  | m + 1 => by
    simp only [List.range_succ, List.map_append, List.map_cons, List.map_nil, crcN_append]
    rw [crc_xor3 f g h s1 s2 s3 m]
    exact bys_xor3 _ _ _ _ _ _
theorem crcS_xor3 (f g h : Nat → UInt8) (m : Nat) : crcS ((List.range m).map fun i => f i ^^^ g i ^^^ h i) = crcS ((List.range m).map f) ^^^ crcS ((List.range m).map g) ^^^ crcS ((List.range m).map h) := by
  have := crc_xor3 f g h 0xb704ce#24 0xb704ce#24 0xb704ce#24 m
  rw [show (0xb704ce#24 ^^^ 0xb704ce#24 ^^^ 0xb704ce#24 : B24) = 0xb704ce#24 from by decide] at this
  exact this
theorem xor3_num (a b c : B24) : bits .xor .i64 (bits .xor .i64 (a.toNat : Int) (b.toNat : Int)) (c.toNat : Int) = ((a ^^^ b ^^^ c).toNat : Int) := by
  have h1 := a.isLt
  have h2 := b.isLt
  have h3 := c.isLt
  rw [xor_i64_nat _ _ (by omega) (by omega), ← BitVec.toNat_xor]
  have h4 := (a ^^^ b).isLt
  rw [xor_i64_nat _ _ (by omega) (by omega), ← BitVec.toNat_xor]

set_option maxRecDepth 100000 in
set_option maxHeartbeats 2000000 in
theorem lawXors_core (A1 A2 A3 : Option Addr) (c1 n1 c2 n2 c3 n3 m : Nat) (f g h : Nat → UInt8) (w : World) (hm : min (n1 : Int) (min (n2 : Int) (min (n3 : Int) 5000)) = m) (g1 : n1 ≤ c1) (g2 : n2 ≤ c2) (g3 : n3 ≤ c3)
    (h1 : RB w A1 ((List.range m).map f)) (h2 : RB w A2 ((List.range m).map g)) (h3 : RB w A3 ((List.range m).map h)) :
    Calls Try.prog 5 #[.slice A1 n1 c1, .slice A2 n2 c2, .slice A3 n3 c3] w fun e w' => e = .returned (.bool true) ∧ Below w.heap.size w w' := by
  have hm1 : m ≤ n1 := by omega
  have hm2 : m ≤ n2 := by omega
  have hm3 : m ≤ n3 := by omega
  have hm4 : m ≤ 5000 := by omega
  have HM := Lib.hid hm
  have HR1 := Lib.hid h1
  have HR2 := Lib.hid h2
  have HR3 := Lib.hid h3
  clear hm h1 h2 h3
  go_enter Try.func5, Try.ntmps5
  go_wp2_with (at_make; refine wpList_make_b rfl (.tmp 17) (.tmp 17) rfl _ _ m rfl rfl HM.out HM.out (by omega) ?_; intro w1 HO hb hsz)
  have hgs : ∀ k, k < m → (fold3 f g h m k).set k (f k ^^^ g k ^^^ h k) = fold3 f g h m (k + 1) := fun k hk => fold3_set f g h m k hk
  have HGS := Lib.hid hgs
  rw [← fold3_zero f g h] at HO
  have HO1 := Lib.hid HO
  clear hgs HO
  simp only [HM.out]
  go_loopw [21] (fun i wr => ∃ k : Nat, k ≤ m ∧ i = .int .i64 k ∧ Below w.heap.size w wr ∧ Hid (OB wr (.slice (some ⟨w.heap.size, 0, none⟩) m m) (fold3 f g h m k))) (fun i _ => m - (intOf i).toNat)
  case atStart => exact ⟨0, Nat.zero_le _, rfl, hb, HO1.out⟩
  case round =>
    clear HO1 hb hsz
    obtain ⟨k, hk, rfl, hb, HO⟩ := hrel
    by_cases hlt : k < m
    · have e1 : ∀ F : Nat → UInt8, k < ((List.range m).map F).length := fun F => by simpa using hlt
      have e2 : ∀ F : Nat → UInt8, ((List.range m).map F).getD k 0 = F k := fun F => by simp [hlt]
      obtain ⟨b1, o1, rfl, hl1, hc1⟩ := HR1.out.2 (by have := e1 f; omega)
      obtain ⟨b2, o2, rfl, hl2, hc2⟩ := HR2.out.2 (by have := e1 g; omega)
      obtain ⟨b3, o3, rfl, hl3, hc3⟩ := HR3.out.2 (by have := e1 h; omega)
      replace hc1 := (hb.cell (p := ⟨b1, o1 + k, none⟩) hl1).trans (hc1 k (e1 f))
      replace hc2 := (hb.cell (p := ⟨b2, o2 + k, none⟩) hl2).trans (hc2 k (e1 g))
      replace hc3 := (hb.cell (p := ⟨b3, o3 + k, none⟩) hl3).trans (hc3 k (e1 h))
      rw [e2] at hc1 hc2 hc3
      clear e1 e2
      have hcx := HO.out.cellAt k (by rw [fold3_len]; exact hlt)
      have hfx := HO.out.frozenAt k
      have d1 : w.heap.size ≠ b1 := by omega
      have d2 : w.heap.size ≠ b2 := by omega
      have d3 : w.heap.size ≠ b3 := by omega
      have l1 : (k : Int) < (n1 : Int) := by omega
      have l2 : (k : Int) < (n2 : Int) := by omega
      have l3 : (k : Int) < (n3 : Int) := by omega
      go_wp2_with fail
      go_region_held3 (fun w' => w'.cell? ⟨b1, o1 + k, none⟩ = some (.int .u8 ((f k).toNat : Int)) ∧ w'.cell? ⟨b2, o2 + k, none⟩ = some (.int .u8 ((g k).toNat : Int)) ∧ w'.cell? ⟨b3, o3 + k, none⟩ = some (.int .u8 ((h k).toNat : Int))) (go_keep) (fail)
      rw [xor_u8, xor_u8]
      have HO2 := HO.out.stored k (f k ^^^ g k ^^^ h k)
      rw [HGS.out k hlt] at HO2
      have HO3 : Hid (OB (wr.setCell ⟨w.heap.size, k, none⟩ (.int .u8 ((f k ^^^ g k ^^^ h k).toNat : Int))).drew (.slice (some ⟨w.heap.size, 0, none⟩) m m) (fold3 f g h m (k + 1))) := HO2
      have hb2 : Below w.heap.size w (wr.setCell ⟨w.heap.size, k, none⟩ (.int .u8 ((f k ^^^ g k ^^^ h k).toNat : Int))).drew := (hb.setCell (Nat.le_refl _) _).drew
      clear HO2 hc1 hc2 hc3 hcx hfx HO hb
      generalize (wr.setCell ⟨w.heap.size, k, none⟩ (.int .u8 ((f k ^^^ g k ^^^ h k).toNat : Int))).drew = w2 at *
      go_wp2_with fail
      go_roundw
      case rel => exact ⟨k + 1, by omega, by go_num, hb2, HO3⟩
      case measure => simp [intOf]; omega
    · obtain rfl : k = m := by omega
      have hx := HO.out
      rw [fold3_end] at hx
      have HX := Lib.hid (hx.reads (by simp; omega))
      have e1 : ∀ F : Nat → UInt8, ((List.range k).map F).length = k := fun F => by simp
      have heq : (((crcS ((List.range k).map fun i => f i ^^^ g i ^^^ h i)).toNat : Int) == bits .xor .i64 (bits .xor .i64 ((crcS ((List.range k).map f)).toNat : Int) ((crcS ((List.range k).map g)).toNat : Int)) ((crcS ((List.range k).map h)).toNat : Int)) = true := by
        rw [xor3_num, crcS_xor3]; simp
      have l1 : (k : Int) ≤ (c1 : Int) := by omega
      have l2 : (k : Int) ≤ (c2 : Int) := by omega
      have l3 : (k : Int) ≤ (c3 : Int) := by omega
      clear hx HO HGS
      go_wp2_with fail
      go_region_held3 (fun w' => Below wr.heap.size wr w') (first | exact (Below.refl _ _).drew | assumption)
        (first
          | (go_at_call 16; refine (crcLives_any _).mono ?_; rintro e w' ⟨rfl, hbel⟩; have hS2 := below_step (by assumption) hbel)
          | (go_at_call_of 17 (Value.slice (some { block := w.heap.size, off := 0 }) k k); refine (sum_n _ _ k _ _ (e1 (fun i => f i ^^^ g i ^^^ h i)) (by exact HX.out.below (by assumption))).mono ?_; rintro e w' ⟨rfl, hbel⟩; have hS2 := below_step (by assumption) hbel)
          | (go_at_call_of 17 (Value.slice A1 k c1); refine (sum_n _ _ k _ _ (e1 f) (by exact (HR1.out.below hb).below (by assumption))).mono ?_; rintro e w' ⟨rfl, hbel⟩; have hS2 := below_step (by assumption) hbel)
          | (go_at_call_of 17 (Value.slice A2 k c2); refine (sum_n _ _ k _ _ (e1 g) (by exact (HR2.out.below hb).below (by assumption))).mono ?_; rintro e w' ⟨rfl, hbel⟩; have hS2 := below_step (by assumption) hbel)
          | (go_at_call_of 17 (Value.slice A3 k c3); refine (sum_n _ _ k _ _ (e1 h) (by exact (HR3.out.below hb).below (by assumption))).mono ?_; rintro e w' ⟨rfl, hbel⟩; have hS2 := below_step (by assumption) hbel))
      go_wp2_with fail
      go_ret
      exact ⟨rfl, below_step hb (by assumption)⟩

theorem IsRow.fill {w : World} {a : Option Addr} {len cap : Nat} {zs : List Int} (h : IsRow .u8 w a len cap zs) (m : Nat) (hm : m ≤ len) (hb : m ≤ 140737488355328) : ∃ F : Nat → UInt8, RB w a ((List.range m).map F) := by
  obtain ⟨xs, hl, hr, hw⟩ := h.ints
  refine ⟨fun i => UInt8.ofNat (xs.getD i 0).toNat, by simpa using hb, fun hn => ?_⟩
  have hm0 : 0 < m := by simpa using hn
  obtain ⟨b, off, rfl, hlt, hc⟩ := hr (by omega)
  refine ⟨b, off, rfl, hlt, fun j hj => ?_⟩
  have hj' : j < m := by simpa using hj
  have hjx : j < xs.length := by omega
  rw [hc j hjx]
  have hz := wf_u8 (hw (xs.getD j 0) (by rw [List.getD_eq_getElem?_getD, List.getElem?_eq_getElem hjx]; simp))
  simp [hj', hjx] at hz ⊢
  omega

theorem lawXors_any (A1 A2 A3 : Option Addr) (c1 n1 c2 n2 c3 n3 : Nat) (z1 z2 z3 : List Int) (w : World) (h1 : IsRow .u8 w A1 n1 c1 z1) (h2 : IsRow .u8 w A2 n2 c2 z2) (h3 : IsRow .u8 w A3 n3 c3 z3) :
    Calls Try.prog 5 #[.slice A1 n1 c1, .slice A2 n2 c2, .slice A3 n3 c3] w fun e w' => e = .returned (.bool true) ∧ Below w.heap.size w w' := by
  obtain ⟨m, hm⟩ : ∃ m : Nat, min (n1 : Int) (min (n2 : Int) (min (n3 : Int) 5000)) = m := Int.eq_ofNat_of_zero_le (by omega)
  obtain ⟨f, hf⟩ := h1.fill m (by omega) (by omega)
  obtain ⟨g, hg⟩ := h2.fill m (by omega) (by omega)
  obtain ⟨h, hh⟩ := h3.fill m (by omega) (by omega)
  exact lawXors_core A1 A2 A3 c1 n1 c2 n2 c3 n3 m f g h w hm h1.le h2.le h3.le hf hg hh

end Go.Proofs.Ytnkenkdglcmpdaa
