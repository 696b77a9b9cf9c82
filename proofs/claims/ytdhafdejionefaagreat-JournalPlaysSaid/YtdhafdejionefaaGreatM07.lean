/- Parts: Rows of records; the walk of the journal's Frames. .. The document's first and turn: plain law and walks. -/
import Derived.Test.YtdhafdejionefaaGreatM06
import Derived.Test.YtdhafdejionefaaGreatM00
import Derived.Maps.OwnIn
import Derived.Maps.AppendAt
import Derived.RangeFuncBox
import Derived.BigQuiet
import Derived.IntWalk
/- Rows of records; the walk of the journal's Frames. -/
namespace Go.Proofs.YtdhafdejionefaaGreat
set_option linter.unusedVariables false
set_option linter.unusedSimpArgs false
open Go.RowKit
attribute [local go_sem] Oper.semAt_some

theorem rb_lt {w : World} {A : Option Addr} {xs : List UInt8} (h : RB w A xs) : ∀ a, A = some a → 0 < xs.length → a.block < w.heap.size := fun a ha h0 => by
  obtain ⟨b, off, e, hlt, _⟩ := h.2 h0
  rw [e] at ha; cases ha; exact hlt
theorem own_fr {base : Nat} {e : TypeId} {size : Nat} {v : Value} {n : Nat} {xs : List Value} {F : Nat → Prop} {w w' : World} (h : w.ownsRow base e size v n xs) (hf : Fr F w w') (hn : ∀ k, v.ownBlock = some k → ¬ F k) : w'.ownsRow base e size v n xs := by
  refine ⟨h.1, ?_⟩
  rcases h.2 with h1 | ⟨g, cap, cur, hv, hb, hg, rest⟩
  · exact .inl h1
  · exact .inr ⟨g, cap, cur, hv, hb, (hf.block g (Array.getElem?_eq_some_iff.1 hg).1 (hn g (by rw [hv]; rfl))).trans hg, rest⟩
theorem own_base {base base' : Nat} {e : TypeId} {size : Nat} {v : Value} {n : Nat} {xs : List Value} {w : World} (h : w.ownsRow base e size v n xs) (hb : base' ≤ base) : w.ownsRow base' e size v n xs := by
  refine ⟨h.1, ?_⟩
  rcases h.2 with h1 | ⟨g, cap, cur, hv, hg, rest⟩
  · exact .inl h1
  · exact .inr ⟨g, cap, cur, hv, Nat.le_trans hb hg, rest⟩
theorem own_form {base : Nat} {e : TypeId} {size : Nat} {v : Value} {n : Nat} {xs : List Value} {w : World} (h : w.ownsRow base e size v n xs) : ∃ A c, v = .slice A n c := by
  rcases h.2 with ⟨rfl, rfl⟩ | ⟨g, cap, cur, rfl, _⟩
  · exact ⟨none, 0, rfl⟩
  · exact ⟨_, _, rfl⟩
/-- A cell that reads as bytes; they lie at B or behind it, in no block of X. -/
def CB (B : Nat) (X : Nat → Prop) (w : World) (c : Value) (l : List UInt8) : Prop := ∃ A n, c = .slice A l.length n ∧ l.length ≤ n ∧ RB w A l ∧ ∀ a, A = some a → 0 < l.length → B ≤ a.block ∧ ¬ X a.block
theorem CB.fr {B : Nat} {X F : Nat → Prop} {w w' : World} {c : Value} {l : List UInt8} (h : CB B X w c l) (hf : Fr F w w') (hn : ∀ k, F k → k < B ∨ X k ∨ w.heap.size ≤ k) : CB B X w' c l := by
  obtain ⟨A, n, h1, h2, h3, h4⟩ := h
  exact ⟨A, n, h1, h2, h3.fr2 hf fun a ha h0 hF => by
    have := h4 a ha h0
    rcases hn _ hF with h | h | h
    · omega
    · exact this.2 h
    · have := rb_lt h3 a ha h0; omega, h4⟩
theorem CB.mono {B B' : Nat} {X Y : Nat → Prop} {w : World} {c : Value} {l : List UInt8} (h : CB B X w c l) (hB : B' ≤ B) (hY : ∀ k, k < w.heap.size → Y k → X k) : CB B' Y w c l := by
  obtain ⟨A, n, h1, h2, h3, h4⟩ := h
  exact ⟨A, n, h1, h2, h3, fun a ha h0 => ⟨Nat.le_trans hB (h4 a ha h0).1, fun hy => (h4 a ha h0).2 (hY _ (rb_lt h3 a ha h0) hy)⟩⟩
/-- An owned row of records. -/
def OL (B : Nat) (w : World) (v : Value) (ls : List (List UInt8)) : Prop :=
  ∃ cs : List Value, w.ownsRow B 35 1 v ls.length cs ∧ ∀ (j : Nat) (c : Value) (l : List UInt8), cs[j]? = some c → ls[j]? = some l → CB B (fun k => v.ownBlock = some k) w c l
/-- The same cell, in a later world, beside other blocks. -/
theorem CB.mono2 {B B' : Nat} {X Y : Nat → Prop} {w0 w : World} {c : Value} {l : List UInt8} (h0 : CB B X w0 c l) (h : CB B X w c l) (hB : B' ≤ B) (hY : ∀ k, k < w0.heap.size → Y k → X k) : CB B' Y w c l := by
  obtain ⟨A, n, h1, h2, h3, h4⟩ := h
  obtain ⟨A', n', e1, e2, e3, e4⟩ := h0
  rw [h1] at e1
  cases e1
  exact ⟨A, n, h1, h2, h3, fun a ha h0 => ⟨Nat.le_trans hB (h4 a ha h0).1, fun hy => (h4 a ha h0).2 (hY _ (rb_lt e3 a ha h0) hy)⟩⟩
/-- One value has been appended to the row in a box. -/
theorem pushed {W w' : World} {s B n : Nat} {v v' x : Value} {t E E' : TypeId} {xs : List Value} (hblk : Blk W s #[v] t) (hown : W.ownsRow B E 1 v n xs) (hs : s < B)
    (hown' : w'.ownsRow B E 1 v' (n + 1) (xs ++ [x])) (hg : (W.alloc (.cells #[x] E')).grownBy w' v.ownBlock) (hat : v'.ownBlock = v.ownBlock ∨ v'.ownBlock = some (W.alloc (.cells #[x] E')).heap.size) :
    w'.cell? ⟨s, 0, none⟩ = some v ∧ w'.frozen? ⟨s, 0, none⟩ = false ∧ Blk (w'.setCell ⟨s, 0, none⟩ v') s #[v'] t ∧ (w'.setCell ⟨s, 0, none⟩ v').ownsRow B E 1 v' (n + 1) (xs ++ [x]) ∧
      Fr (fun i => v.ownBlock = some i) W w' ∧ Fr (fun i => i = s ∨ v.ownBlock = some i) W (w'.setCell ⟨s, 0, none⟩ v') ∧ (v'.ownBlock = v.ownBlock ∨ ∃ k, v'.ownBlock = some k ∧ W.heap.size + 1 ≤ k) ∧ W.heap.size + 1 ≤ (w'.setCell ⟨s, 0, none⟩ v').heap.size := by
  have hf1 : Fr (fun i => v.ownBlock = some i) W (W.alloc (.cells #[x] E')) := Fr.alloc _ _ _
  have hf2 : Fr (fun i => v.ownBlock = some i) (W.alloc (.cells #[x] E')) w' := Fr.grown hg (fun k hk => hk)
  have hb : Blk w' s #[v] t := (hblk.alloc _).fr hf2 (fun h => by have := (hown.lt _ h).1; omega)
  have hf3 : Fr (fun i => i = s) w' (w'.setCell ⟨s, 0, none⟩ v') := Fr.setCell _ _ _ _ rfl
  refine ⟨hb.cell 0, hb.free 0, hb.set 0 v', own_fr hown' hf3 (fun k hk => ?_), hf1.trans hf2 fun i h => .inl h, ?_, ?_, ?_⟩
  · have := (hown'.lt k hk).1; omega
  · exact ((hf1.trans hf2 fun i h => .inl h).mono fun i h => .inl (.inr h)).trans hf3 fun i h => .inl (.inl h)
  · rcases hat with h | h
    · exact .inl h
    · exact .inr ⟨_, h, by simp⟩
  · have := hf2.size; have := hf3.size; simp at *; omega
theorem framesP_len (b : List UInt8) : (framesP b).length ≤ b.length := by
  obtain ⟨r, h⟩ := frames_is b
  have : ∀ l : List (UInt8 × List UInt8), l.length ≤ (encs l).length := by
    intro l
    induction l with
    | nil => exact Nat.le_refl _
    | cons p l ih => rw [encs_cons, List.length_append, frameB_len, List.length_cons]; omega
  have h1 := this (framesP b)
  have h2 := congrArg List.length h.eq
  rw [List.length_append] at h2
  omega
theorem info_u8' : (Tryz.prog.info? 5).map (fun i => (i.zero, i.size, i.bytes)) = some (some (.int .u8 0), 1, 1) := by kernel_rfl
theorem info_row : (Tryz.prog.info? 35).map (fun i => (i.zero, i.size, i.bytes)) = some (some (.slice none 0 0), 1, 24) := by kernel_rfl
/-- What lies between two rounds of Frames. -/
def IFr (s : Nat) (pre : List (UInt8 × List UInt8)) (W : World) : Prop := ∃ (kv lv : Value) (cs : List Value), Blk W s #[kv] 35 ∧ Blk W (s + 1) #[lv] 36 ∧
  W.ownsRow (s + 5) 5 1 kv pre.length (bv (pre.map (·.1))) ∧ W.ownsRow (s + 5) 35 1 lv pre.length cs ∧
  ∀ (j : Nat) (c : Value) (p : UInt8 × List UInt8), cs[j]? = some c → pre[j]? = some p → CB (s + 5) (fun k => kv.ownBlock = some k ∨ lv.ownBlock = some k) W c p.2
theorem IFr.fr {s : Nat} {pre : List (UInt8 × List UInt8)} {W W' : World} (h : IFr s pre W) (hf : Fr (fun k => k = s + 2 ∨ k = s + 3 ∨ k = s + 4) W W') : IFr s pre W' := by
  obtain ⟨kv, lv, cs, h1, h2, h3, h4, h5⟩ := h
  refine ⟨kv, lv, cs, h1.fr hf (by omega), h2.fr hf (by omega), own_fr h3 hf (fun k hk => ?_), own_fr h4 hf (fun k hk => ?_), fun j c p hc hp => (h5 j c p hc hp).fr hf (fun k hk => .inl (by omega))⟩
  · have := (h3.lt k hk).1; omega
  · have := (h4.lt k hk).1; omega
end Go.Proofs.YtdhafdejionefaaGreat

/- The walks of the reference of crc24: Step, Next, Sum; the chapter's example. -/
namespace Go.Proofs.YtdhafdejionefaaGreat
set_option linter.unusedVariables false
set_option linter.unusedSimpArgs false
open Go.RowKit

theorem bst_big (s : B24) (h : 16777215 < (s.toNat : Int) * 2) : bits .xor .i64 ((s.toNat : Int) * 2 - 16777215 - 1) 8801531 = ((bst s).toNat : Int) := by
  have hl := s.isLt
  have hm : s.msb = true := by rw [BitVec.msb_eq_decide]; simp; omega
  have e : (s.toNat : Int) * 2 - 16777215 - 1 = ((s.toNat * 2 - 16777216 : Nat) : Int) := by omega
  have e2 : (8801531 : Int) = ((8801531 : Nat) : Int) := rfl
  rw [e, e2, xor_i64_nat _ _ (by omega) (by omega)]
  unfold bst
  rw [hm, if_pos rfl, BitVec.toNat_xor, BitVec.toNat_shiftLeft, Nat.shiftLeft_eq]
  have e3 : s.toNat * 2 ^ 1 % 2 ^ 24 = s.toNat * 2 - 16777216 := by omega
  rw [e3]
  rfl
theorem bst_low (s : B24) (h : ¬ 16777215 < (s.toNat : Int) * 2) : (s.toNat : Int) * 2 = ((bst s).toNat : Int) := by
  rw [bst_small s (by omega), BitVec.toNat_shiftLeft, Nat.shiftLeft_eq]
  omega
theorem bsts_end : ∀ (n : Nat) (s : B24), bsts (n + 1) s = bst (bsts n s)
  | 0, _ => rfl
  | n + 1, s => by rw [bsts, bsts_end n]; rfl

set_option maxHeartbeats 1000000 in
theorem refStep_any (s : B24) (x : UInt8) (w : World) :
    Calls Tryz.prog 104 #[.int .i64 (s.toNat : Int), .int .u8 (x.toNat : Int)] w fun e w' => e = .returned (.int .i64 ((bys s x).toNat : Int)) ∧ w = w' := by
  have hl := s.isLt
  have hx := x.toNat_lt
  have hs0 : (0 : Int) ≤ (s.toNat : Int) ∧ (s.toNat : Int) < 16777216 := by omega
  have hx0 : (0 : Int) ≤ (x.toNat : Int) ∧ (x.toNat : Int) < 256 := by omega
  have h0 : bits .xor .i64 (s.toNat : Int) ((x.toNat : Int) * 65536) = ((bsts 0 (s ^^^ ((BitVec.ofNat 24 x.toNat) <<< 16))).toNat : Int) := by
    have e : (x.toNat : Int) * 65536 = ((x.toNat * 65536 : Nat) : Int) := by omega
    rw [e, xor_i64_nat _ _ (by omega) (by omega)]
    simp only [bsts]
    rw [BitVec.toNat_xor, BitVec.toNat_shiftLeft, Nat.shiftLeft_eq, BitVec.toNat_ofNat]
    have e2 : x.toNat % 2 ^ 24 * 2 ^ 16 % 2 ^ 24 = x.toNat * 65536 := by omega
    rw [e2]
  have hlast : bys s x = bsts 8 (s ^^^ ((BitVec.ofNat 24 x.toNat) <<< 16)) := rfl
  rw [hlast]
  generalize s ^^^ ((BitVec.ofNat 24 x.toNat) <<< 16) = t at *
  have H0 := Lib.hid h0
  clear h0 hlast hl hx
  go_enter Tryz.func104, Tryz.ntmps104
  go_wp2
  go_loop [0, 5] (fun v i => ∃ j : Nat, j ≤ 8 ∧ i = .int .i64 j ∧ v = .int .i64 ((bsts j t).toNat : Int)) (fun _ i => 8 - (intOf i).toNat)
  case atStart => exact ⟨0, by omega, rfl, val_int H0.out⟩
  case round =>
    obtain ⟨j, hj, rfl, rfl⟩ := hrel
    obtain ⟨q, hq⟩ : ∃ q, q = bsts j t := ⟨_, rfl⟩
    rw [← hq]
    have HQ := Lib.hid hq
    clear hq
    have hl := q.isLt
    have hq0 : (0 : Int) ≤ (q.toNat : Int) ∧ (q.toNat : Int) < 16777216 := by omega
    by_cases hlt : j < 8
    · by_cases hb : 16777215 < (q.toNat : Int) * 2
      · go_wp2
        go_round
        case rel => exact ⟨j + 1, by omega, by go_num, val_int (by rw [bst_big q hb, HQ.out, bsts_end])⟩
        case measure => simp [intOf]; omega
      · go_wp2
        go_round
        case rel => exact ⟨j + 1, by omega, by go_num, val_int (by rw [bst_low q hb, HQ.out, bsts_end])⟩
        case measure => simp [intOf]; omega
    · obtain rfl : j = 8 := by omega
      go_wp2
      go_ret
      exact ⟨ret_int (by rw [HQ.out]), rfl⟩

theorem crcN_snoc' (s : B24) (xs : List UInt8) (k : Nat) (h : k < xs.length) : crcN s (xs.take (k + 1)) = bys (crcN s (xs.take k)) (xs.getD k 0) := by
  rw [crcN_snoc s xs k h, bys_nst]

set_option maxHeartbeats 1000000 in
theorem refNext_any (s : Int) (A : Option Addr) (c : Nat) (xs : List UInt8) (w : World) (hr : RB w A xs) :
    Calls Tryz.prog 92 #[.int .i64 s, .slice A xs.length c] w fun e w' => e = .returned (.int .i64 ((crcN (BitVec.ofInt 24 s) xs).toNat : Int)) ∧ w = w' := by
  obtain ⟨n, hn⟩ : ∃ n, n = xs.length := ⟨_, rfl⟩
  have hmx : n ≤ 140737488355328 := by rw [hn]; exact hr.1
  rw [← hn]
  have HN := Lib.hid hn
  have HR := Lib.hid hr
  clear hr hn
  go_enter Tryz.func92, Tryz.ntmps92
  go_wp2
  go_loop [0, 5] (fun v i => ∃ k : Nat, k ≤ n ∧ i = .int .i64 k ∧ v = .int .i64 ((crcN (BitVec.ofInt 24 s) (xs.take k)).toNat : Int)) (fun _ i => n - (intOf i).toNat)
  case atStart => exact ⟨0, Nat.zero_le _, rfl, val_int (by rw [and_all]; simp [crcN])⟩
  case round =>
    obtain ⟨k, hk, rfl, rfl⟩ := hrel
    by_cases hlt : k < n
    · obtain ⟨b, off, rfl, hbl, hcell⟩ := HR.out.2 (by rw [← HN.out]; omega)
      have hcx : w.cell? ⟨b, off + k, none⟩ = some (.int .u8 ((xs.getD k 0).toNat : Int)) := hcell k (by rw [← HN.out]; exact hlt)
      clear hcell
      have HC := crcN_snoc' (BitVec.ofInt 24 s) xs k (by rw [← HN.out]; exact hlt)
      obtain ⟨x, hx⟩ : ∃ x, x = xs.getD k 0 := ⟨_, rfl⟩
      rw [← hx] at hcx HC
      obtain ⟨q, hq⟩ : ∃ q, q = crcN (BitVec.ofInt 24 s) (xs.take k) := ⟨_, rfl⟩
      rw [← hq] at HC ⊢
      have HC' := Lib.hid HC
      clear hx hq HC
      go_wp2_with fail
      refine (refStep_any q x _).mono ?_
      rintro e w' ⟨rfl, rfl⟩
      go_wp2_with fail
      go_round
      case rel => exact ⟨k + 1, by omega, by go_num, val_int (by rw [HC'.out])⟩
      case measure => simp [intOf]; omega
    · obtain rfl : k = n := by omega
      go_wp2
      go_ret
      exact ⟨ret_int (by rw [HN.out, List.take_length]), rfl⟩

theorem refSum_any (A : Option Addr) (c : Nat) (xs : List UInt8) (w : World) (hr : RB w A xs) :
    Calls Tryz.prog 75 #[.slice A xs.length c] w fun e w' => e = .returned (.int .i64 ((crcS xs).toNat : Int)) ∧ w = w' := by
  go_enter Tryz.func75, Tryz.ntmps75
  go_wp2_with fail
  refine (refNext_any 11994318 A c xs w hr).mono ?_
  rintro e w' ⟨rfl, rfl⟩
  go_wp2
  go_ret
  exact ⟨rfl, rfl⟩

end Go.Proofs.YtdhafdejionefaaGreat

/- The document's numbers, texts and frames: walks. -/
namespace Go.Proofs.YtdhafdejionefaaGreat
set_option linter.unusedVariables false
set_option linter.unusedSimpArgs false
open Go.RowKit

theorem wpList_append_bk {w : World} {ops : Array Oper} {rest : List Oper} {o : Oper} {a : Act} {Q : Exit → Act → World → Prop} (hgd : o.guard = none) (s x : Operand)
    (ho : o.op = .call { callee := .builtin .append, args := #[s, x], argTypes := #[35, 35] })
    (B : Nat) (v : Value) (xs : List UInt8) (hs : a.eval s = v) (HO : OBB B w v xs) (hB : B ≤ w.heap.size) (A : Option Addr) (c : Nat) (ys : List UInt8) (hx : a.eval x = .slice A ys.length c) (hr : RB w A ys) (hb : xs.length + ys.length ≤ 140737488355328)
    (h : ∀ v' w', OBB B w' v' (xs ++ ys) → Below B w w' → (∀ u zs, OB w u zs → (u.ownBlock = none ∨ u.ownBlock ≠ v.ownBlock) → OB w' u zs) → wpList Tryz.prog ops Q rest (a.put o.dst v') w') : wpList Tryz.prog ops Q (o :: rest) a w :=
  wpList_append_b hgd s x ho v xs hs HO.1 A c ys hx hr hb fun v' w' h1 h2 h3 =>
    h v' w' ⟨h1, fun k hk => by
      rcases h3 with h3 | h3
      · rw [h3] at hk; exact HO.2 k hk
      · rw [h3] at hk; cases hk; exact hB⟩ ((Below.refl B w).grown h2 hB (fun k hk => HO.2 k hk)) fun u zs hu hne => hu.kept h2 hne
theorem OBB.mono {B B' : Nat} {w : World} {v : Value} {xs : List UInt8} (h : OBB B w v xs) (hB : B' ≤ B) : OBB B' w v xs := ⟨h.1, fun k hk => Nat.le_trans hB (h.2 k hk)⟩
/-- A row that was made later is another one. -/
theorem OBB.ne {B : Nat} {w w' : World} {v u : Value} {xs ys : List UInt8} (h : OBB B w v xs) (hu : OBB w.heap.size w' u ys) : u.ownBlock = none ∨ u.ownBlock ≠ v.ownBlock := by
  match hk : u.ownBlock with
  | none => exact .inl rfl
  | some k =>
    refine .inr fun he => ?_
    have h1 := hu.2 k hk
    have h2 := h.1.lt k he.symm
    omega
theorem be_cons : ∀ (j n : Nat), be (j + 1) n = UInt8.ofNat (n / 256 ^ j % 256) :: be j n
  | 0, n => by simp [be]
  | j + 1, n => by
    rw [be, be_cons j (n / 256), Nat.div_div_eq_div_mul, ← Nat.pow_succ', List.cons_append]
    rfl
theorem OBB.reads' {B : Nat} {w : World} {v : Value} {xs : List UInt8} (h : OBB B w v xs) (hl : xs.length ≤ 140737488355328) : ∃ A c, v = .slice A xs.length c ∧ RB w A xs ∧ xs.length ≤ c := by
  obtain ⟨A, c, h1, h2, h3, _⟩ := h.1.reads' hl
  exact ⟨A, c, h1, h2, h3⟩
theorem OBB.lit1 (B : Nat) (w : World) (x : Nat) (hx : x < 256) (hB : B ≤ w.heap.size) : OBB B (w.alloc (.cells #[.int .u8 (x : Int)] 5)) (.slice (some ⟨w.heap.size, 0, none⟩) 1 1) [UInt8.ofNat x] :=
  ⟨OB.lit w [UInt8.ofNat x] _ (by simp [bv]; omega) (by simp), fun k hk => by simp [Value.ownBlock] at hk; omega⟩
set_option maxHeartbeats 2000000 in
theorem digits_any (B n : Nat) (w : World) (hB : B ≤ w.heap.size) (hn : n < 9223372036854775808) :
    Calls Tryz.prog 94 #[.int .i64 (n : Int)] w fun e w' => ∃ v, e = .returned v ∧ OBB B w' v (be (nbytes n) n) ∧ Below B w w' := by
  have h8 := nbytes_small hn
  obtain ⟨N, hN⟩ : ∃ N, N = nbytes n := ⟨_, rfl⟩
  rw [← hN] at h8 ⊢
  have HN := Lib.hid hN
  have HO : Hid (OBB B w (.slice none 0 0) (be 0 n)) := Lib.hid ⟨OB.nil w, fun k hk => by simp [Value.ownBlock] at hk⟩
  clear hN
  go_enter Tryz.func94, Tryz.ntmps94
  go_wp2_with fail
  go_loopw [0, 3] (fun x u wr => ∃ m j : Nat, x = .int .i64 (m : Int) ∧ m < 9223372036854775808 ∧ j ≤ 8 ∧ Hid (j + nbytes m = N) ∧ Hid (m = n / 256 ^ j) ∧ Hid (OBB B wr u (be j n)) ∧ Hid (Below B w wr) ∧ B ≤ wr.heap.size) (fun x _ _ => (intOf x).toNat)
  case atStart => exact ⟨n, 0, rfl, hn, by omega, Lib.hid (by rw [HN.out]; omega), Lib.hid (by simp), HO, Lib.hid (Below.refl _ _), hB⟩
  case round =>
    clear HO
    obtain ⟨m, j, rfl, hm, hj8, HJ, HM, HV, HB, hBr⟩ := hrel
    by_cases h0 : 0 < m
    · have l0 : (0 : Int) < (m : Int) := by omega
      obtain ⟨A, c, rfl, hr, hc⟩ := HV.out.reads' (by rw [be_len]; omega)
      rw [be_len] at hc ⊢
      obtain ⟨x, hx⟩ : ∃ x, x = m % 256 := ⟨_, rfl⟩
      have hx256 : x < 256 := by omega
      have hxi : (m : Int) % 256 = (x : Int) := by omega
      have HX := Lib.hid hx
      have HXI := Lib.hid hxi
      have HL := Lib.hid (OBB.lit1 B wr x hx256 hBr)
      have HR : Hid (RB (wr.alloc (.cells #[.int .u8 (x : Int)] 5)) A (be j n)) := Lib.hid (hr.below ((Below.refl _ _).alloc (Nat.le_refl _) _))
      have HB2 : Hid (B ≤ (wr.alloc (.cells #[.int .u8 (x : Int)] 5)).heap.size) := Lib.hid (by simp; omega)
      have HLB := Lib.hid (be_len j n)
      clear hx hxi hr hc
      go_wp2_with (at_builtin; rw [HXI.out]; refine wpList_append_bb rfl (.tmp 9) (.tmp 10) rfl B (.slice (some ⟨wr.heap.size, 0, none⟩) 1 1) [UInt8.ofNat x] rfl HL.out HB2.out A c (be j n) (by rw [HLB.out]; rfl) HR.out (by rw [HLB.out]; simp; omega) ?_; intro v1 w1 hv hb)
      have hnb := nbytes_pos h0
      have hj1 : j + 1 ≤ 8 := by have := HJ.out; omega
      have HV3 : Hid (OBB B w1 v1 (be (j + 1) n)) := Lib.hid (by rw [be_cons, ← HM.out, ← HX.out]; exact hv)
      have HB3 : Hid (Below B w w1) := Lib.hid (HB.out.trans (((Below.refl B wr).alloc hBr _).trans hb))
      have hB3 : B ≤ w1.heap.size := Nat.le_trans HB2.out hb.size
      have HJ3 : Hid (j + 1 + nbytes (m / 256) = N) := Lib.hid (by have := HJ.out; omega)
      have HM3 : Hid (m / 256 = n / 256 ^ (j + 1)) := Lib.hid (by rw [Nat.pow_succ, ← Nat.div_div_eq_div_mul, ← HM.out])
      clear hv hb HV HL HR HB2 HB hBr HJ HM hnb
      go_wp2_with fail
      go_roundw
      case rel => exact ⟨m / 256, j + 1, by go_num, by omega, hj1, HJ3, HM3, HV3, HB3, hB3⟩
      case measure => simp [intOf]; omega
    · obtain rfl : m = 0 := by omega
      have hjn : j = N := by have := HJ.out; rw [nbytes_zero] at this; omega
      subst hjn
      clear HJ HM
      go_wp2_with fail
      go_ret
      exact ⟨_, rfl, HV.out, HB.out⟩

set_option maxRecDepth 100000 in
set_option maxHeartbeats 2000000 in
theorem rput_any (B : Nat) (A : Option Addr) (c : Nat) (xs : List UInt8) (n : Nat) (w : World) (hB : B ≤ w.heap.size) (hr : RB w A xs) (hm : xs.length ≤ 1000) (hn : n < 9223372036854775808) :
    Calls Tryz.prog 78 #[.slice A xs.length c, .int .i64 (n : Int)] w fun e w' => ∃ v, e = .returned v ∧ OBB B w' v (xs ++ putN n) ∧ Below B w w' := by
  have h0 : ¬ (n : Int) < 0 := by omega
  have h8 := nbytes_small hn
  obtain ⟨N, hN⟩ : ∃ N, N = nbytes n := ⟨_, rfl⟩
  rw [← hN] at h8
  have HN := Lib.hid hN
  obtain ⟨m, hmm⟩ : ∃ m, m = xs.length := ⟨_, rfl⟩
  rw [← hmm] at hm ⊢
  have HM := Lib.hid hmm
  have HR := Lib.hid (hr.below ((Below.refl w.heap.size w).alloc (Nat.le_refl _) (.cells #[] 5)))
  have HO := Lib.hid (show OBB B (w.alloc (.cells #[] 5)) (.slice (some ⟨w.heap.size, 0, none⟩) 0 0) [] from ⟨OB.lit w [] _ rfl (by decide), fun k hk => by simp [Value.ownBlock] at hk; omega⟩)
  have hB1 : B ≤ (w.alloc (.cells #[] 5)).heap.size := by simp; omega
  clear hN hmm hr
  go_enter Tryz.func78, Tryz.ntmps78
  go_wp2_with (at_builtin; refine wpList_append_bb rfl (.tmp 7) (.tmp 8) rfl B (.slice (some ⟨w.heap.size, 0, none⟩) 0 0) [] rfl HO.out hB1 A c xs (by rw [← HM.out]; rfl) HR.out (by rw [← HM.out]; simp; omega) ?_; intro v1 w1 hv hb)
  rw [List.nil_append] at hv
  have HV := Lib.hid hv
  have HB1 : Hid (Below B w w1) := Lib.hid (((Below.refl B w).alloc hB _).trans hb)
  have hs1 : B ≤ w1.heap.size := Nat.le_trans hB1 hb.size
  clear hv hb HO HR hB1
  go_wp2_with fail
  refine (digits_any w1.heap.size n w1 (Nat.le_refl _) hn).mono ?_
  rw [← HN.out]
  rintro e w2 ⟨d, rfl, hd, hb2⟩
  have hs2 : B ≤ w2.heap.size := Nat.le_trans hs1 hb2.size
  have hv2 := HV.out.below hb2
  have hne := HV.out.ne hd
  have hba : Below w2.heap.size w2 (w2.alloc (.cells #[.int .u8 (N : Int)] 5)) := (Below.refl _ _).alloc (Nat.le_refl _) _
  obtain ⟨A2, c2, rfl, _, _⟩ := hd.reads' (by rw [be_len]; omega)
  have HBL := Lib.hid (be_len N n)
  rw [HBL.out] at hd hne ⊢
  have HV2 := Lib.hid (hv2.below hba)
  have HD2 := Lib.hid (hd.1.below hba)
  have HNE := Lib.hid hne
  have HL2 : Hid (RB (w2.alloc (.cells #[.int .u8 (N : Int)] 5)) (some ⟨w2.heap.size, 0, none⟩) [UInt8.ofNat N]) := Lib.hid (RB.fresh w2 [UInt8.ofNat N] [] _ _ (by simp) (by simp [bv]; omega))
  have hs3 : B ≤ (w2.alloc (.cells #[.int .u8 (N : Int)] 5)).heap.size := by simp; omega
  have HB2 : Hid (Below B w (w2.alloc (.cells #[.int .u8 (N : Int)] 5))) := Lib.hid ((HB1.out.trans (Below.up hb2 hs1)).alloc (by omega) _)
  clear hv2 hne hba hd hb2 HV HB1
  go_wp2_with (at_builtin; refine (fun (h : Hid _) => h.out) ?_)
  refine Lib.hid ?_
  refine wpList_append_bk rfl (.tmp 15) (.tmp 19) rfl B v1 xs rfl HV2.out hs3 (some ⟨w2.heap.size, 0, none⟩) 1 [UInt8.ofNat N] rfl HL2.out (by rw [← HM.out]; simp; omega) ?_
  intro v3 w3 hv hb hk
  have HV3 := Lib.hid hv
  have HB3 := Lib.hid (HB2.out.trans hb)
  have hs4 : B ≤ w3.heap.size := Nat.le_trans hs3 hb.size
  have hd3 := hk _ _ HD2.out HNE.out
  have hr3 : RB w3 A2 (be N n) := hd3.reads (by rw [be_len]; omega)
  have HR3 := Lib.hid hr3
  clear hv hb hk hd3 hr3 HV2 HD2 HNE HL2 HB2 hs3
  go_wp2_with (at_builtin; refine (fun (h : Hid _) => h.out) ?_)
  refine Lib.hid ?_
  refine wpList_append_bb rfl (.tmp 21) (.tmp 22) rfl B v3 (xs ++ [UInt8.ofNat N]) rfl HV3.out hs4 A2 c2 (be N n) (by rw [HBL.out]; rfl) HR3.out (by rw [HBL.out, List.length_append, ← HM.out]; simp; omega) ?_
  intro v4 w4 hv hb
  have HV4 : Hid (OBB B w4 v4 (xs ++ putN n)) := Lib.hid (by
    unfold putN
    rw [← HN.out]
    rw [List.append_assoc] at hv
    exact hv)
  have HB4 := Lib.hid (HB3.out.trans hb)
  clear hv hb HV3 HB3
  go_wp2_with fail
  go_ret
  exact ⟨_, rfl, HV4.out, HB4.out⟩
set_option maxRecDepth 100000 in
theorem rputText_any (B : Nat) (A : Option Addr) (c : Nat) (xs ys : List UInt8) (w : World) (hB : B ≤ w.heap.size) (hr : RB w A xs) (hm : xs.length ≤ 1000) (hy : ys.length ≤ 1000000000) :
    Calls Tryz.prog 74 #[.slice A xs.length c, .string (strB ys)] w fun e w' => ∃ v, e = .returned v ∧ OBB B w' v (xs ++ putT ys) ∧ Below B w w' := by
  obtain ⟨s, hs⟩ : ∃ s, s = strB ys := ⟨_, rfl⟩
  have hsz : s.size = ys.length := by rw [hs]; simp [strB, ByteArray.size]
  obtain ⟨n, hn⟩ : ∃ n, n = ys.length := ⟨_, rfl⟩
  obtain ⟨m, hmm⟩ : ∃ m, m = xs.length := ⟨_, rfl⟩
  rw [← hn] at hsz hy
  rw [← hs]
  have HC := Lib.hid (rput_any B A c xs n w hB hr hm (by omega))
  rw [← hmm] at hm HC ⊢
  have HS := Lib.hid hs
  have HN := Lib.hid hn
  have HM := Lib.hid hmm
  clear hs hn hmm hr
  go_enter Tryz.func74, Tryz.ntmps74
  go_wp2_with fail
  refine HC.out.mono ?_
  rintro e w' ⟨v, rfl, hv, hb⟩
  have HV := Lib.hid hv
  have HB := Lib.hid hb
  have hB1 : B ≤ w'.heap.size := Nat.le_trans hB hb.size
  have HL : Hid ((xs ++ putN n).length + ys.length ≤ 140737488355328) := Lib.hid (by
    have := nbytes_small (n := n) (by omega)
    rw [List.length_append, putN_len, ← HM.out, ← HN.out]; omega)
  clear hv hb HC
  go_wp2_with (at_builtin; refine wpList_append_sb rfl (.tmp 8) (.tmp 9) rfl B v (xs ++ putN n) rfl HV.out hB1 ys (by rw [← HS.out]; rfl) HL.out ?_; intro v1 w1 hv hb)
  have HV2 : Hid (OBB B w1 v1 (xs ++ putT ys)) := Lib.hid (by
    unfold putT
    rw [← HN.out, ← List.append_assoc]
    exact hv)
  have HB2 := Lib.hid (HB.out.trans hb)
  clear hv hb HV HB HL
  go_wp2_with fail
  go_ret
  exact ⟨v1, rfl, HV2.out, HB2.out⟩
set_option maxRecDepth 100000 in
set_option maxHeartbeats 2000000 in
theorem rframe_any (B : Nat) (k : UInt8) (A : Option Addr) (c : Nat) (xs : List UInt8) (w : World) (hB : B ≤ w.heap.size) (hr : RB w A xs) (hy : xs.length ≤ 1000000000) :
    Calls Tryz.prog 60 #[.int .u8 (k.toNat : Int), .slice A xs.length c] w fun e w' => ∃ v, e = .returned v ∧ OBB B w' v (frameB k xs) ∧ Below B w w' := by
  obtain ⟨n, hn⟩ : ∃ n, n = xs.length := ⟨_, rfl⟩
  rw [← hn]
  have hba : Below w.heap.size w (w.alloc (.cells #[.int .u8 (k.toNat : Int)] 5)) := (Below.refl _ _).alloc (Nat.le_refl _) _
  have hcv := run_str (hr.below hba) n c hn.symm
  have hk1 : RB (w.alloc (.cells #[.int .u8 (k.toNat : Int)] 5)) (some ⟨w.heap.size, 0, none⟩) [k] := RB.fresh w [k] [] _ _ (by simp) (by simp [bv])
  have HK := Lib.hid hk1
  have hB1 : B ≤ (w.alloc (.cells #[.int .u8 (k.toNat : Int)] 5)).heap.size := Nat.le_trans hB hba.size
  have HBA := Lib.hid (Below.up hba hB)
  have HY := Lib.hid hy
  clear hk1 hr hn hba hy
  go_enter Tryz.func60, Tryz.ntmps60
  go_wp2_with fail
  refine (rputText_any B (some ⟨w.heap.size, 0, none⟩) 1 [k] xs _ hB1 HK.out (by simp) HY.out).mono ?_
  rintro e w1 ⟨v, rfl, hv, hb⟩
  rw [List.singleton_append] at hv
  have HBL := Lib.hid (HBA.out.trans hb)
  have hB2 : B ≤ w1.heap.size := Nat.le_trans hB1 hb.size
  have hlen : (k :: putT xs).length = 2 + nbytes xs.length + xs.length := by rw [List.length_cons, putT_len]; omega
  have hnb := nbytes_small (n := xs.length) (by have := HY.out; omega)
  have hLb : (k :: putT xs).length ≤ 1000000100 := by have := HY.out; omega
  obtain ⟨A2, c2, rfl, hr2, _⟩ := hv.reads' (by omega)
  obtain ⟨L, hL⟩ : ∃ L, L = (k :: putT xs).length := ⟨_, rfl⟩
  have hsum := refSum_any A2 c2 (k :: putT xs) w1 hr2
  rw [← hL] at hsum hLb hv ⊢
  have HSU := Lib.hid hsum
  have HL := Lib.hid hL
  have HR2 := Lib.hid hr2
  clear hv hb hlen hnb hL hr2 hsum HK HBA hcv
  go_wp2_with fail
  refine HSU.out.mono ?_
  rintro e w2 ⟨rfl, rfl⟩
  obtain ⟨s, hs⟩ : ∃ s, s = (crcS (k :: putT xs)).toNat := ⟨_, rfl⟩
  have hs24 : s < 16777216 := by rw [hs]; exact crcS_lt _
  rw [← hs]
  have HS := Lib.hid hs
  have e0 : (s : Int) / 65536 = ((UInt8.ofNat (s / 65536)).toNat : Int) := by simp; omega
  have e1 : (s : Int) / 256 % 256 = ((UInt8.ofNat (s / 256 % 256)).toNat : Int) := by simp
  have e2 : (s : Int) % 256 = ((UInt8.ofNat (s % 256)).toNat : Int) := by simp
  have E0 := Lib.hid e0
  have E1 := Lib.hid e1
  have E2 := Lib.hid e2
  obtain ⟨W, hW⟩ : ∃ W, W = w1.alloc (.cells #[.int .u8 ((UInt8.ofNat (s / 65536)).toNat : Int), .int .u8 ((UInt8.ofNat (s / 256 % 256)).toNat : Int), .int .u8 ((UInt8.ofNat (s % 256)).toNat : Int)] 5) := ⟨_, rfl⟩
  have hbl : Below w1.heap.size w1 W := by rw [hW]; exact (Below.refl _ _).alloc (Nat.le_refl _) _
  have HO3 : Hid (OBB B W (.slice (some ⟨w1.heap.size, 0, none⟩) 3 3) (sum3 s)) := Lib.hid (by rw [hW]; exact ⟨OB.lit w1 (sum3 s) _ rfl (by simp [sum3]), fun k hk => by simp [Value.ownBlock] at hk; omega⟩)
  have HR3 := Lib.hid (HR2.out.below hbl)
  have HB3 := Lib.hid (HBL.out.trans (Below.up hbl hB2))
  have hs3 : B ≤ W.heap.size := Nat.le_trans hB2 hbl.size
  have HWW := Lib.hid hW
  clear hs HSU e0 e1 e2 hbl hW
  go_wp2_with (at_builtin; rw [E0.out, E1.out, E2.out, ← HWW.out]; refine wpList_append_bb rfl (.tmp 24) (.tmp 25) rfl B (.slice (some ⟨w1.heap.size, 0, none⟩) 3 3) (sum3 s) rfl HO3.out hs3 A2 c2 (k :: putT xs) (by rw [← HL.out]; rfl) HR3.out (by rw [← HL.out]; simp [sum3]; omega) ?_; intro v4 w4 hv hb)
  have HV4 : Hid (OBB B w4 v4 (frameB k xs)) := Lib.hid (by unfold frameB; rw [← HS.out]; exact hv)
  have HB4 := Lib.hid (HB3.out.trans hb)
  clear hv hb HO3 HR3 HB3 HR2 HBL
  go_wp2_with fail
  go_ret
  exact ⟨_, rfl, HV4.out, HB4.out⟩

end Go.Proofs.YtdhafdejionefaaGreat

/- The document's Reader: walks. -/
namespace Go.Proofs.YtdhafdejionefaaGreat
set_option linter.unusedVariables false
set_option linter.unusedSimpArgs false
open Go.RowKit

/-- Block pb is the document's reader of the bytes b, at a place, with the error e. -/
structure RRAt (w : World) (pb : Nat) (b : List UInt8) (p : Nat) (e : Int) (A : Option Addr) (c : Nat) : Prop where
  blk : Blk w pb #[.slice A b.length c, .int .i64 (p : Int), .int .i64 e] 124
  rb : RB w A b
  cap : b.length ≤ c
  ne : ∀ a, A = some a → 0 < b.length → a.block ≠ pb
def RRd (w : World) (pb : Nat) (b : List UInt8) (p : Nat) (e : Int) : Prop := ∃ A c, RRAt w pb b p e A c
theorem RRAt.below {w w' : World} {pb : Nat} {b : List UInt8} {p : Nat} {e : Int} {A : Option Addr} {c : Nat} (h : RRAt w pb b p e A c) (hb : Below w.heap.size w w') : RRAt w' pb b p e A c :=
  ⟨h.blk.below hb, h.rb.below hb, h.cap, h.ne⟩
set_option maxRecDepth 100000 in
theorem rrdr_any (B : Nat) (A : Option Addr) (c : Nat) (xs : List UInt8) (w : World) (hB : B ≤ w.heap.size) (hr : RB w A xs) (hl : xs.length ≤ 140737488355328) :
    Calls Tryz.prog 89 #[.slice A xs.length c] w fun e w' => ∃ pb, e = .returned (.pointer (some ⟨pb, 0, none⟩)) ∧ B ≤ pb ∧ RRd w' pb xs 0 0 ∧ Below B w w' := by
  have HLO := Lib.hid (show OB (w.alloc (.cells #[] 5)) (.slice (some ⟨w.heap.size, 0, none⟩) 0 0) [] from OB.lit w [] _ rfl (by decide))
  have HR := Lib.hid (hr.below ((Below.refl w.heap.size w).alloc (Nat.le_refl _) (.cells #[] 5)))
  have HL := Lib.hid hl
  clear hr hl
  go_enter Tryz.func89, Tryz.ntmps89
  go_wp2_with (at_builtin; refine wpList_append_b rfl (.tmp 3) (.tmp 4) rfl (.slice (some ⟨w.heap.size, 0, none⟩) 0 0) [] rfl HLO.out A c xs rfl HR.out (by simp; exact HL.out) ?_; intro v w1 HO hg hat; have hcf := Lib.hid (clone_facts HO hg hat); obtain ⟨A1, c1, hv, hc1⟩ : ∃ A1 c1, v = .slice A1 xs.length c1 ∧ True := (by obtain ⟨A1, c1, h⟩ := hcf.out.1.form; exact ⟨A1, c1, h, trivial⟩); subst hv)
  clear HO hg hat hc1 HR HLO
  go_ret
  have hcf := hcf.out
  obtain ⟨A2, c2, hv, hr2, hc2, hn2⟩ := hcf.1.reads' HL.out
  cases hv
  have hbn : Below w.heap.size w1 (w1.alloc (.cells #[.slice A1 xs.length c1, .int .i64 0, .int .i64 0] 124)) := (Below.refl _ _).alloc hcf.2.1.size _
  have hbn1 : Below w1.heap.size w1 (w1.alloc (.cells #[.slice A1 xs.length c1, .int .i64 0, .int .i64 0] 124)) := (Below.refl _ _).alloc (Nat.le_refl _) _
  refine ⟨w1.heap.size, rfl, Nat.le_trans hB hcf.2.1.size, ⟨A1, c1, Blk.new w1 _ _, hr2.below hbn1, hc2, fun a e hx h => ?_⟩, Below.up (hcf.2.1.trans hbn) hB⟩
  have := hcf.1.lt _ (hn2 a e)
  omega
theorem below_drewN (w : World) (n : Nat) : Below w.heap.size w (w.drewN n) := ⟨rfl, rfl, rfl, Nat.le_refl _, fun _ _ => rfl⟩
theorem rdone_any (pb : Nat) (b : List UInt8) (p : Nat) (e : Int) (w : World) (h : RRd w pb b p e) (hl : b.length ≤ 140737488355328) (hp : p ≤ b.length) :
    Calls Tryz.prog 91 #[.pointer (some ⟨pb, 0, none⟩)] w fun r w' => r = .returned (.int .i64 (doneR (b.drop p) e)) ∧ ∃ n, w' = w.drewN n := by
  obtain ⟨A, c, h⟩ := h
  have h0 : w.cell? ⟨pb, 0, none⟩ = some (.slice A b.length c) := h.blk.cell 0
  have h1 : w.cell? ⟨pb, 1, none⟩ = some (.int .i64 (p : Int)) := h.blk.cell 1
  have h2 : w.cell? ⟨pb, 2, none⟩ = some (.int .i64 e) := h.blk.cell 2
  clear h
  unfold doneR
  have hd : b.drop p = [] ↔ ¬ p < b.length := by rw [List.drop_eq_nil_iff]; omega
  simp only [hd]
  obtain ⟨L, hL⟩ : ∃ L, L = b.length := ⟨_, rfl⟩
  rw [← hL] at h0 hl hp ⊢
  clear hL hd
  go_enter Tryz.func91, Tryz.ntmps91
  by_cases he : e = 0
  · subst he
    by_cases hlt : p < L
    · go_wp2_with fail
      go_quiet (fail)
      go_wp2
      go_ret
      exact ⟨by simp [hlt], _, rfl⟩
    · go_wp2_with fail
      go_quiet (fail)
      go_wp2
      go_ret
      exact ⟨by simp [hlt], _, rfl⟩
  · have he' : (e != 0) = true := by simp [he]
    go_wp2_with fail
    go_ret
    exact ⟨by simp [he], 0, rfl⟩
set_option maxRecDepth 100000 in
theorem rnumber_any (pb : Nat) (b : List UInt8) (e : Int) (w : World) (h : RRd w pb b 0 e) (hl : b.length ≤ 140737488355328) :
    Calls Tryz.prog 103 #[.pointer (some ⟨pb, 0, none⟩)] w fun r w' => r = .returned (.tuple #[.int .i64 (numP b).1, .int .i64 (numP b).2.1, .int .i64 (numP b).2.2]) ∧ ∃ n, w' = w.drewN n := by
  obtain ⟨A, c, H⟩ := h
  have h0 : w.cell? ⟨pb, 0, none⟩ = some (.slice A b.length c) := H.blk.cell 0
  have h1 : w.cell? ⟨pb, 1, none⟩ = some (.int .i64 0) := H.blk.cell 1
  have hcap := H.cap
  have hr := H.rb
  clear H
  match b with
  | [] =>
    go_enter Tryz.func103, Tryz.ntmps103
    go_wp2_with fail
    go_quiet (fail)
    go_wp2_with fail
    go_ret3
    exact ⟨rfl, _, rfl⟩
  | x :: r =>
    obtain ⟨b, off, hA, hbl, hc⟩ := hr.2 (by simp)
    subst hA
    have hx0 : w.cell? ⟨b, off, none⟩ = some (.int .u8 (x.toNat : Int)) := hc 0 (by simp)
    have hx := x.toNat_lt
    obtain ⟨k, hk⟩ : ∃ k, k = x.toNat := ⟨_, rfl⟩
    obtain ⟨n, hn⟩ : ∃ n, n = r.length := ⟨_, rfl⟩
    rw [List.length_cons, ← hn] at h0 hl hcap
    have HC : Hid (∀ j, j < n → w.cell? ⟨b, off + 1 + j, none⟩ = some (.int .u8 ((r.getD j 0).toNat : Int))) := Lib.hid (fun j hj => by
      have := hc (j + 1) (by rw [List.length_cons]; omega)
      rw [show off + 1 + j = off + (j + 1) by omega]
      exact this)
    simp only [numP]
    rw [← hk, ← hn]
    rw [← hk] at hx hx0
    have HK := Lib.hid hk
    have HN := Lib.hid hn
    clear hc hr hk hn
    by_cases h8 : 8 < k
    · rw [if_pos h8]
      go_enter Tryz.func103, Tryz.ntmps103
      go_wp2_with fail
      go_quiet (fail)
      go_wp2_with fail
      go_ret3
      exact ⟨rfl, _, rfl⟩
    rw [if_neg h8]
    by_cases h9 : n < k
    · rw [if_pos h9]
      go_enter Tryz.func103, Tryz.ntmps103
      go_wp2_with fail
      go_quiet (fail)
      go_wp2_with fail
      go_ret3
      exact ⟨rfl, _, rfl⟩
    rw [if_neg h9]
    by_cases h0k : k = 0
    · subst h0k
      rw [if_neg (by omega)]
      have HS : Hid (∀ i, i ≤ 0 → val (r.take i) < 9223372036854775808) := Lib.hid fun i hi => by
        obtain rfl : i = 0 := by omega
        simp [val]
      go_enter Tryz.func103, Tryz.ntmps103
      go_wp2_with fail
      go_quiet (fail)
      go_wp2_with fail
      go_loopw [7, 8] (fun s i wr => ∃ j : Nat, j ≤ 0 ∧ i = .int .i64 ((j : Int) + 1) ∧ s = .int .i64 ((val (r.take j) : Nat) : Int) ∧ Hid (∃ n, wr = w.drewN n)) (fun _ i _ => 0 + 1 - (intOf i).toNat)
      case atStart => exact ⟨0, Nat.zero_le _, rfl, rfl, Lib.hid ⟨_, rfl⟩⟩
      case round =>
        obtain ⟨j, hj, rfl, rfl, hw⟩ := hrel
        by_cases hlt : j < 0
        · exact absurd hlt (by omega)
        · have hjk : j = 0 := by omega
          subst hjk
          go_wp2_with fail
          go_ret3
          exact ⟨rfl, hw.out⟩
    obtain ⟨y, hy⟩ : ∃ y, y = r.getD 0 0 := ⟨_, rfl⟩
    have hy1 : w.cell? ⟨b, off + 1, none⟩ = some (.int .u8 (y.toNat : Int)) := by
      rw [hy]; exact HC.out 0 (by omega)
    have hyb := y.toNat_lt
    rw [← hy]
    have HY := Lib.hid hy
    clear hy
    obtain ⟨z, hz⟩ : ∃ z, z = y.toNat := ⟨_, rfl⟩
    have hy0 : y = 0 ↔ z = 0 := by rw [hz]; exact ⟨fun h => by rw [h]; rfl, fun h => UInt8.toNat_inj.1 (by rw [h]; rfl)⟩
    rw [← hz] at hy1 hyb ⊢
    simp only [hy0]
    have HZ := Lib.hid hz
    clear hz hy0
    by_cases h10 : z = 0
    · rw [if_pos (.inl ⟨by omega, h10⟩)]
      subst h10
      go_enter Tryz.func103, Tryz.ntmps103
      go_wp2_with fail
      go_quiet (fail)
      go_wp2_with fail
      go_ret3
      exact ⟨rfl, _, rfl⟩
    by_cases h11 : k = 8 ∧ 127 < z
    · rw [if_pos (.inr h11)]
      obtain ⟨rfl, h11⟩ := h11
      go_enter Tryz.func103, Tryz.ntmps103
      go_wp2_with fail
      go_quiet (fail)
      go_wp2_with fail
      go_ret3
      exact ⟨rfl, _, rfl⟩
    rw [if_neg (fun h => by rcases h with h | h; exact h10 h.2; exact h11 h)]
    have hsm : ∀ i, i ≤ k → val (r.take i) < 9223372036854775808 := fun i hi => Nat.lt_of_le_of_lt (val_mono r i k hi) (val_small r k (by omega) (by rw [← HN.out]; omega) (fun h => by rw [← HY.out, ← HZ.out]; omega))
    have HS := Lib.hid hsm
    clear hsm
    by_cases h88 : k = 8
    · subst h88
      have hz7 : ¬ (127 : Int) < (z : Int) := by omega
      have hz0 : ((z : Int) == 0) = false := by simp; omega
      go_enter Tryz.func103, Tryz.ntmps103
      go_wp2_with fail
      go_quiet (fail)
      go_wp2_with fail
      go_loopw [7, 8] (fun s i wr => ∃ j : Nat, j ≤ 8 ∧ i = .int .i64 ((j : Int) + 1) ∧ s = .int .i64 ((val (r.take j) : Nat) : Int) ∧ Hid (∃ n, wr = w.drewN n)) (fun _ i _ => 8 + 1 - (intOf i).toNat)
      case atStart => exact ⟨0, Nat.zero_le _, rfl, rfl, Lib.hid ⟨_, rfl⟩⟩
      case round =>
        obtain ⟨j, hj, rfl, rfl, hw⟩ := hrel
        by_cases hlt : j < 8
        · have hcx : wr.cell? ⟨b, off + (j + 1), none⟩ = some (.int .u8 ((r.getD j 0).toNat : Int)) := by
            obtain ⟨nn, hw⟩ := hw.out
            rw [hw, show off + (j + 1) = off + 1 + j by omega]; exact HC.out j (by omega)
          have hs := HS.out (j + 1) hlt
          rw [val_take_succ r j (by rw [← HN.out]; omega)] at hs
          have hqb := (r.getD j 0).toNat_lt
          have hvs := val_take_succ r j (by rw [← HN.out]; omega)
          obtain ⟨N, hN⟩ : ∃ N, N = val (r.take j) := ⟨_, rfl⟩
          obtain ⟨q, hq⟩ : ∃ q, q = (r.getD j 0).toNat := ⟨_, rfl⟩
          rw [← hN, ← hq] at hs hvs
          rw [← hq] at hcx hqb
          rw [← hN]
          have HV := Lib.hid hvs
          clear hvs hN hq
          go_wp2_with fail
          go_roundw
          case rel =>
            refine ⟨j + 1, hlt, by go_num, ?_, hw⟩
            rw [HV.out]
            go_num
          case measure => simp [intOf]; omega
        · have hjk : j = 8 := by omega
          subst hjk
          go_wp2_with fail
          go_ret3
          exact ⟨rfl, hw.out⟩
    · have h88' : ((k : Int) == 8) = false := by simp; omega
      go_enter Tryz.func103, Tryz.ntmps103
      go_wp2_with fail
      go_quiet (fail)
      go_wp2_with fail
      go_loopw [7, 8] (fun s i wr => ∃ j : Nat, j ≤ k ∧ i = .int .i64 ((j : Int) + 1) ∧ s = .int .i64 ((val (r.take j) : Nat) : Int) ∧ Hid (∃ n, wr = w.drewN n)) (fun _ i _ => k + 1 - (intOf i).toNat)
      case atStart => exact ⟨0, Nat.zero_le _, rfl, rfl, Lib.hid ⟨_, rfl⟩⟩
      case round =>
        obtain ⟨j, hj, rfl, rfl, hw⟩ := hrel
        by_cases hlt : j < k
        · have hcx : wr.cell? ⟨b, off + (j + 1), none⟩ = some (.int .u8 ((r.getD j 0).toNat : Int)) := by
            obtain ⟨nn, hw⟩ := hw.out
            rw [hw, show off + (j + 1) = off + 1 + j by omega]; exact HC.out j (by omega)
          have hs := HS.out (j + 1) hlt
          rw [val_take_succ r j (by rw [← HN.out]; omega)] at hs
          have hqb := (r.getD j 0).toNat_lt
          have hvs := val_take_succ r j (by rw [← HN.out]; omega)
          obtain ⟨N, hN⟩ : ∃ N, N = val (r.take j) := ⟨_, rfl⟩
          obtain ⟨q, hq⟩ : ∃ q, q = (r.getD j 0).toNat := ⟨_, rfl⟩
          rw [← hN, ← hq] at hs hvs
          rw [← hq] at hcx hqb
          rw [← hN]
          have HV := Lib.hid hvs
          clear hvs hN hq
          go_wp2_with fail
          go_roundw
          case rel =>
            refine ⟨j + 1, hlt, by go_num, ?_, hw⟩
            rw [HV.out]
            go_num
          case measure => simp [intOf]; omega
        · have hjk : j = k := by omega
          subst hjk
          go_wp2_with fail
          go_ret3
          exact ⟨rfl, hw.out⟩

/-- Its block alone is written. -/
def DoesRR (w : World) (pb : Nat) (b : List UInt8) (p : Nat) (e : Int) (w' : World) : Prop := RRd w' pb b p e ∧ Fr (fun k => k = pb) w w'
theorem Fr.drewN (F : Nat → Prop) (w : World) (n : Nat) : Fr F w (w.drewN n) := Fr.of_below (below_drewN w n)
theorem rr_set {w : World} {pb : Nat} {b : List UInt8} {p : Nat} {e : Int} {A : Option Addr} {c : Nat} (h : RRAt w pb b p e A c) (n : Nat) (p' : Nat) : DoesRR w pb b p' e ((w.drewN n).setCell ⟨pb, 1, none⟩ (.int .i64 (p' : Int))) := by
  have hf : Fr (fun k => k = pb) w ((w.drewN n).setCell ⟨pb, 1, none⟩ (.int .i64 (p' : Int))) := (Fr.drewN _ w n).trans (Fr.setCell (fun k => k = pb) _ ⟨pb, 1, none⟩ _ rfl) (fun _ h => .inl h)
  exact ⟨⟨A, c, (h.below (below_drewN w n)).blk.set 1 (.int .i64 (p' : Int)), h.rb.fr2 hf fun a ha h0 => h.ne a ha h0, h.cap, h.ne⟩, hf⟩
theorem rr_err {w : World} {pb : Nat} {b : List UInt8} {p : Nat} {e : Int} {A : Option Addr} {c : Nat} (h : RRAt w pb b p e A c) (n : Nat) (e' : Int) : DoesRR w pb b p e' ((w.drewN n).setCell ⟨pb, 2, none⟩ (.int .i64 e')) := by
  have hf : Fr (fun k => k = pb) w ((w.drewN n).setCell ⟨pb, 2, none⟩ (.int .i64 e')) := (Fr.drewN _ w n).trans (Fr.setCell (fun k => k = pb) _ ⟨pb, 2, none⟩ _ rfl) (fun _ h => .inl h)
  exact ⟨⟨A, c, (h.below (below_drewN w n)).blk.set 2 (.int .i64 e'), h.rb.fr2 hf fun a ha h0 => h.ne a ha h0, h.cap, h.ne⟩, hf⟩
theorem DoesRR.below {w w1 w2 : World} {pb : Nat} {b : List UInt8} {p : Nat} {e : Int} (h : DoesRR w pb b p e w1) (hb : Below w1.heap.size w1 w2) : DoesRR w pb b p e w2 := by
  obtain ⟨⟨A, c, h1⟩, h2⟩ := h
  exact ⟨⟨A, c, h1.below hb⟩, h2.trans (Fr.of_below hb) fun _ h => .inl h⟩
theorem DoesRR.drewN {w w1 : World} {pb : Nat} {b : List UInt8} {p : Nat} {e : Int} (h : DoesRR w pb b p e w1) (n : Nat) : DoesRR w pb b p e (w1.drewN n) := h.below (below_drewN w1 n)
/-- Where the reader stands then. -/
def placeR (most : Int) (b : List UInt8) : Nat := if (numP b).2.2 ≠ 0 then 0 else if most < (numP b).1 then 0 else (numP b).2.1.toNat
set_option maxRecDepth 100000 in
theorem rnum_any (pb : Nat) (most : Int) (b : List UInt8) (w : World) (h : RRd w pb b 0 0) (hl : b.length ≤ 140737488355328) :
    Calls Tryz.prog 90 #[.pointer (some ⟨pb, 0, none⟩), .int .i64 most] w fun r w' => r = .returned (.int .i64 (numR most b).1) ∧ DoesRR w pb b (placeR most b) (numR most b).2.2 w' := by
  obtain ⟨⟨n, b', e'⟩, hR⟩ : ∃ R, R = numR most b := ⟨_, rfl⟩
  obtain ⟨p', hP⟩ : ∃ p', p' = placeR most b := ⟨_, rfl⟩
  rw [← hR, ← hP]
  unfold numR at hR
  unfold placeR at hP
  have hsm := numP_small b
  have hnum := rnumber_any pb b 0 w h hl
  obtain ⟨A, c, H⟩ := h
  have h1 : w.cell? ⟨pb, 1, none⟩ = some (.int .i64 0) := H.blk.cell 1
  have h2 : w.cell? ⟨pb, 2, none⟩ = some (.int .i64 0) := H.blk.cell 2
  have f1 := H.blk.free 1
  have f2 := H.blk.free 2
  have HH := Lib.hid H
  have HNU := Lib.hid hnum
  clear H hnum
  go_enter Tryz.func90, Tryz.ntmps90
  go_wp2_with fail
  refine HNU.out.mono ?_
  rintro r w' ⟨rfl, nd, rfl⟩
  match hn : numP b with
  | (n0, s0, e0) =>
    rw [hn] at hR hP hsm
    simp only at hR hP hsm ⊢
    by_cases he : e0 = 0
    · subst he
      obtain ⟨k1, k2, k3, k4, k5⟩ := hsm
      replace k5 := k5 (by trivial)
      by_cases hm : most < n0
      · rw [if_neg (by simp), if_pos hm] at hR hP
        cases hR
        subst hP
        go_wp2_with fail
        go_ret
        exact ⟨rfl, rr_err HH.out nd 3⟩
      · rw [if_neg (by simp), if_neg hm] at hR hP
        cases hR
        obtain ⟨s, rfl⟩ : ∃ s : Nat, s0 = (s : Int) := ⟨s0.toNat, by omega⟩
        replace hP : p' = s := hP
        subst hP
        have hm' : n ≤ most := by omega
        clear hn k5 hm
        go_wp2_with fail
        go_ret
        exact ⟨rfl, rr_set HH.out nd p'⟩
    · have he' : (e0 == 0) = false := by simp [he]
      have he2 : (e0 != 0) = true := by simp [he]
      rw [if_pos he] at hR hP
      cases hR
      subst hP
      go_wp2_with fail
      go_ret
      exact ⟨rfl, rr_err HH.out nd e'⟩

/-- Where the reader stands behind a text. -/
def placeT (most : Int) (b : List UInt8) : Nat := if (numP b).2.2 ≠ 0 then 0 else if most < (numP b).1 then 0 else if (b.length : Int) - (numP b).2.1 < (numP b).1 then 0 else (numP b).2.1.toNat + (numP b).1.toNat
set_option maxRecDepth 100000 in
set_option maxHeartbeats 2000000 in
theorem rtext_any (pb : Nat) (most : Int) (b : List UInt8) (w : World) (h : RRd w pb b 0 0) (hl : b.length ≤ 140737488355328) :
    Calls Tryz.prog 102 #[.pointer (some ⟨pb, 0, none⟩), .int .i64 most] w fun r w' => r = .returned (.string (strB (textR most b).1)) ∧ DoesRR w pb b (placeT most b) (textR most b).2.2 w' := by
  obtain ⟨⟨n, b', e'⟩, hR⟩ : ∃ R, R = textR most b := ⟨_, rfl⟩
  obtain ⟨p', hP⟩ : ∃ p', p' = placeT most b := ⟨_, rfl⟩
  rw [← hR, ← hP]
  unfold textR at hR
  unfold placeT at hP
  have hsm := numP_small b
  have hnum := rnumber_any pb b 0 w h hl
  obtain ⟨A, c, H⟩ := h
  have h0 : w.cell? ⟨pb, 0, none⟩ = some (.slice A b.length c) := H.blk.cell 0
  have h1 : w.cell? ⟨pb, 1, none⟩ = some (.int .i64 0) := H.blk.cell 1
  have h2 : w.cell? ⟨pb, 2, none⟩ = some (.int .i64 0) := H.blk.cell 2
  have f1 := H.blk.free 1
  have f2 := H.blk.free 2
  have hcap := H.cap
  have HH := Lib.hid H
  have HNU := Lib.hid hnum
  clear H hnum
  go_enter Tryz.func102, Tryz.ntmps102
  go_wp2_with fail
  refine HNU.out.mono ?_
  rintro r w' ⟨rfl, nd, rfl⟩
  match hn : numP b with
  | (n0, s0, e0) =>
    rw [hn] at hR hP hsm
    simp only at hR hP hsm ⊢
    by_cases he : e0 = 0
    · subst he
      obtain ⟨k1, k2, k3, k4, k5⟩ := hsm
      replace k5 := k5 (by trivial)
      by_cases hm : most < n0
      · rw [if_neg (by simp), if_pos hm] at hR hP
        cases hR
        subst hP
        have hf : ((3 : Int) == 0) = false := rfl
        go_wp2_with fail
        go_quiet (fail)
        go_wp2_with fail
        go_ret
        exact ⟨rfl, rr_err HH.out _ 3⟩
      · rw [if_neg (by simp), if_neg hm] at hR hP
        obtain ⟨s, rfl⟩ : ∃ s : Nat, s0 = (s : Int) := ⟨s0.toNat, by omega⟩
        obtain ⟨m, rfl⟩ : ∃ m : Nat, n0 = (m : Int) := ⟨n0.toNat, by omega⟩
        have hm' : (m : Int) ≤ most := by omega
        by_cases hcut : (b.length : Int) - (s : Int) < (m : Int)
        · rw [if_pos hcut] at hR hP
          cases hR
          subst hP
          obtain ⟨L, hL⟩ : ∃ L, L = b.length := ⟨_, rfl⟩
          rw [← hL] at hcut k5 hl h0 hcap
          clear hL hn k1 k3
          go_wp2_with fail
          have q1 : IntKind.i64.wrap ((L : Int) - 0) = (L : Int) := by rw [Int.sub_zero]; exact IntWalk.i64_in _ (by omega)
          have q2 : IntKind.i64.wrap ((L : Int) - (s : Int)) = (L : Int) - (s : Int) := IntWalk.i64_in _ (by omega)
          go_quiet (fail)
          clear q1 q2
          go_wp2_with fail
          go_ret
          exact ⟨rfl, rr_err HH.out _ 10⟩
        · rw [if_neg hcut] at hR hP
          cases hR
          replace hP : p' = s + m := hP
          have hpos : 0 < b.length := by
            rcases Nat.eq_zero_or_pos b.length with h | h
            · rw [List.eq_nil_of_length_eq_zero h] at hn; simp [numP] at hn
            · exact h
          obtain ⟨bb, off, rfl, hbb, hcl⟩ := HH.out.rb.2 hpos
          have hneb : bb ≠ pb := HH.out.ne _ rfl hpos
          obtain ⟨L, hL⟩ : ∃ L, L = b.length := ⟨_, rfl⟩
          rw [← hL] at hcut k5 hl h0 hcap
          have hcut' : (m : Int) ≤ (L : Int) - (s : Int) := by omega
          have HL := Lib.hid hL
          have HP := Lib.hid hP
          clear hL hn k1 k3 hcut hP hcl hpos
          go_wp2_with fail
          have q1 : IntKind.i64.wrap ((L : Int) - 0) = (L : Int) := by rw [Int.sub_zero]; exact IntWalk.i64_in _ (by omega)
          have q2 : IntKind.i64.wrap ((L : Int) - (s : Int)) = (L : Int) - (s : Int) := IntWalk.i64_in _ (by omega)
          have q3 : decide ((L : Int) - (s : Int) < (m : Int)) = false := by simp; omega
          go_quiet (fail)
          clear q1 q2 q3
          go_wp2_with fail
          have hd := rr_set HH.out (nd + nq) (s + m)
          obtain ⟨W, hW⟩ : ∃ W, W = (w.drewN (nd + nq)).setCell ⟨pb, 1, none⟩ (.int .i64 ((s : Int) + (m : Int))) := ⟨_, rfl⟩
          rw [← hW]
          have hd : DoesRR w pb b (s + m) 0 W := by rw [hW]; exact hd
          have HD := Lib.hid hd
          obtain ⟨A3, c3, H3⟩ := hd.1
          have h30 : W.cell? ⟨pb, 0, none⟩ = some (.slice A3 b.length c3) := H3.blk.cell 0
          have h31 : W.cell? ⟨pb, 1, none⟩ = some (.int .i64 ((s : Int) + (m : Int))) := H3.blk.cell 1
          have hcl : W.cell? ⟨pb, 0, none⟩ = w.cell? ⟨pb, 0, none⟩ := by
            have hne : (⟨pb, 1, none⟩ : Addr) ≠ ⟨pb, 0, none⟩ := by simp
            rw [hW]; exact (World.cell?_setCell_other _ _ _ _ hne).trans rfl
          rw [hcl, h0, ← HL.out] at h30
          cases h30
          replace h30 : W.cell? ⟨pb, 0, none⟩ = some (.slice (some ⟨bb, off, none⟩) L c) := hcl.trans h0
          have hlen : ((b.drop s).take m).length = m := by rw [List.length_take, List.length_drop, ← HL.out]; omega
          have hx : ∀ n, RB (W.drewN n) (some ⟨bb, off + s, none⟩) ((b.drop s).take m) := fun n => ((H3.rb.drop s).take m).below (below_drewN W n)
          have HX := Lib.hid hx
          have HLE := Lib.hid hlen
          have q4 : IntKind.i64.wrap ((s : Int) + (m : Int) - (m : Int)) = (s : Int) := by rw [show (s : Int) + (m : Int) - (m : Int) = (s : Int) by omega]; exact IntWalk.i64_in _ (by omega)
          clear hcl hW h0 h1 h2 f1 f2 H3 hx hlen hbb hneb hd
          by_cases hcs : c = s
          · subst hcs
            obtain rfl : m = 0 := by omega
            have hcv := fun n => run_str (RB.nil (W.drewN n) (some ⟨bb, off, none⟩)) 0 0 rfl
            obtain ⟨str, hstr⟩ : ∃ str, str = strB [] := ⟨_, rfl⟩
            rw [← hstr] at hcv
            have HST := Lib.hid hstr
            clear hstr
            go_quiet (fail)
            clear q4 hcv
            go_wp2_with fail
            go_ret
            rw [HP.out]
            exact ⟨by rw [HST.out]; rfl, HD.out.drewN _⟩
          · have hcv := fun n => run_str (HX.out n) m (c - s) HLE.out
            obtain ⟨str, hstr⟩ : ∃ str, str = strB ((b.drop s).take m) := ⟨_, rfl⟩
            rw [← hstr] at hcv
            have HST := Lib.hid hstr
            clear hstr
            go_quiet (fail)
            clear q4 hcv
            go_wp2_with fail
            go_ret
            rw [HP.out]
            exact ⟨by rw [HST.out]; rfl, HD.out.drewN _⟩
    · have he' : (e0 == 0) = false := by simp [he]
      have he2 : (e0 != 0) = true := by simp [he]
      rw [if_pos he] at hR hP
      cases hR
      subst hP
      go_wp2_with fail
      go_quiet (fail)
      go_wp2_with fail
      go_ret
      exact ⟨rfl, rr_err HH.out _ e'⟩

end Go.Proofs.YtdhafdejionefaaGreat

/- The document's first and turn: plain law and walks. -/
namespace Go.Proofs.YtdhafdejionefaaGreat
set_option linter.unusedVariables false
set_option linter.unusedSimpArgs false
open Go.RowKit

theorem sum3_eq (c : Nat) (h : c < 16777216) (x0 x1 x2 : UInt8) : sum3 c = [x0, x1, x2] ↔ c = x0.toNat * 65536 + x1.toNat * 256 + x2.toNat := by
  constructor
  · intro he
    have h1 := sum3_num c h
    unfold sum3 at he
    simp only [List.cons.injEq, and_true] at he
    obtain ⟨e0, e1, e2⟩ := he
    rw [e0, e1, e2] at h1
    exact h1.symm
  · intro he
    rw [he]; exact sum3_inv x0 x1 x2
theorem firstP_ref (x0 x1 x2 k : UInt8) (b4 : List UInt8) : firstP (x0 :: x1 :: x2 :: k :: b4) =
    if (textR 4194304 b4).2.2 ≠ 0 ∨ (k ≠ 68 ∧ k ≠ 71) then none
    else if frameB k (textR 4194304 b4).1 ≠ (x0 :: x1 :: x2 :: k :: b4).take (4 + placeT 4194304 b4) then none
    else if k = 71 ∧ numberP (textR 4194304 b4).1 = 0 then none
    else some (k, (textR 4194304 b4).1, 4 + placeT 4194304 b4) := by
  rw [firstP]
  unfold textR placeT
  match hn : numP b4 with
  | (n, s, e) =>
    simp only
    by_cases hk : k ≠ 68 ∧ k ≠ 71
    · rw [if_pos hk, if_pos (.inr hk)]
    rw [if_neg hk]
    by_cases he : e = 0
    · subst he
      by_cases hm : 4194304 < n
      · rw [if_pos (.inr (.inl hm))]
        simp [hm]
      by_cases hcut : (b4.length : Int) - s < n
      · rw [if_pos (.inr (.inr hcut))]
        simp [hm, hcut]
      rw [if_neg (by simp [hm, hcut])]
      obtain ⟨m, r, e1, e2, e3, e4⟩ := numP_inv hn
      have e2' : s.toNat = 1 + nbytes m := by rw [e2]; omega
      have e1' : n.toNat = m := by rw [e1]; omega
      simp only [hm, hcut, if_false, ne_eq, not_true_eq_false, false_or, if_neg hk]
      rw [e1', e2']
      have hlen : b4.length = 1 + nbytes m + r.length := by rw [e3, List.length_append, putN_len]
      have hmr : m ≤ r.length := by omega
      have hdrop : b4.drop (1 + nbytes m) = r := by rw [e3, ← putN_len m, List.drop_left]
      rw [hdrop]
      have hxl : (r.take m).length = m := by rw [List.length_take]; omega
      have hput : putT (r.take m) = putN m ++ r.take m := by unfold putT; rw [hxl]
      have htk : b4.take (1 + nbytes m + m) = putT (r.take m) := by
        rw [hput, e3, ← putN_len m, List.take_length_add_append]
      have htk4 : (x0 :: x1 :: x2 :: k :: b4).take (4 + (1 + nbytes m + m)) = x0 :: x1 :: x2 :: k :: putT (r.take m) := by
        rw [show 4 + (1 + nbytes m + m) = (1 + nbytes m + m) + 1 + 1 + 1 + 1 by omega]
        simp only [List.take_succ_cons]
        rw [htk]
      rw [htk, htk4]
      have hiff : frameB k (r.take m) = x0 :: x1 :: x2 :: k :: putT (r.take m) ↔ (crcS (k :: putT (r.take m))).toNat = x0.toNat * 65536 + x1.toNat * 256 + x2.toNat := by
        rw [← sum3_eq _ (crcS_lt _)]
        unfold frameB
        rw [show x0 :: x1 :: x2 :: k :: putT (r.take m) = [x0, x1, x2] ++ (k :: putT (r.take m)) from rfl]
        exact List.append_left_inj _
      simp only [hiff, Nat.add_assoc]
    · rw [if_pos (.inl he)]
      simp [he]
theorem rnumberP_read (xs : List UInt8) : doneR (xs.drop (placeR 1099511627776 xs)) (numR 1099511627776 xs).2.2 = doneR (numR 1099511627776 xs).2.1 (numR 1099511627776 xs).2.2 := by
  unfold doneR numR placeR
  by_cases h1 : (numP xs).2.2 ≠ 0
  · simp [h1]
  · by_cases h2 : (1099511627776 : Int) < (numP xs).1
    · simp [h1, h2]
    · simp [h1, h2]
theorem placeR_le (most : Int) (xs : List UInt8) : placeR most xs ≤ xs.length := by
  have h := numP_small xs
  unfold placeR
  split
  · omega
  · split
    · omega
    · rename_i h1 _
      have := h.2.2.2.2 (Classical.byContradiction fun hh => h1 hh)
      omega
theorem placeT_le (most : Int) (xs : List UInt8) : placeT most xs ≤ xs.length := by
  have h := numP_small xs
  unfold placeT
  split
  · omega
  · split
    · omega
    · split
      · omega
      · rename_i h1 _ h2
        have := h.2.2.2.2 (Classical.byContradiction fun hh => h1 hh)
        omega
theorem rturn_any (B : Nat) (A : Option Addr) (c : Nat) (xs : List UInt8) (w : World) (hB : B ≤ w.heap.size) (hr : RB w A xs) (hl : xs.length ≤ 140737488355328) :
    Calls Tryz.prog 73 #[.slice A xs.length c] w fun e w' => e = .returned (.int .i64 (numberP xs)) ∧ Below B w w' := by
  obtain ⟨d, hd⟩ : ∃ d, d = numberP xs := ⟨_, rfl⟩
  rw [← hd]
  rw [numberP_read, ← rnumberP_read] at hd
  have HD := Lib.hid hd
  clear hd
  go_enter Tryz.func73, Tryz.ntmps73
  go_wp2_with fail
  refine (rrdr_any B A c xs w hB hr hl).mono ?_
  rintro r w1 ⟨pb, rfl, hpb, hrd, hb⟩
  have hB1 : B ≤ w1.heap.size := Nat.le_trans hB hb.size
  go_wp2_with fail
  refine (rnum_any pb 1099511627776 xs w1 hrd hl).mono ?_
  rintro r w2 ⟨rfl, hd⟩
  have hb2 := hb.trans (rd_below hd.2 hpb hB1)
  go_wp2_with fail
  refine (rdone_any pb _ _ _ w2 hd.1 hl (placeR_le _ _)).mono ?_
  rintro r w3 ⟨rfl, nd, rfl⟩
  obtain ⟨t, ht⟩ : ∃ t, t = doneR (xs.drop (placeR 1099511627776 xs)) (numR 1099511627776 xs).2.2 := ⟨_, rfl⟩
  have HD2 := HD.out
  rw [← ht] at HD2 ⊢
  clear ht HD
  have HB := Lib.hid (hb2.trans (Below.up (below_drewN w2 nd) (Nat.le_trans hB hb2.size)))
  clear hb hd hb2 hrd hr
  by_cases h0 : t = 0
  · subst h0
    rw [if_pos rfl] at HD2
    subst HD2
    go_wp2_with fail
    go_ret
    exact ⟨rfl, HB.out⟩
  · have h0' : (t != 0) = true := by simp [h0]
    rw [if_neg h0] at HD2
    subst HD2
    go_wp2_with fail
    go_ret
    exact ⟨rfl, HB.out⟩

end Go.Proofs.YtdhafdejionefaaGreat
