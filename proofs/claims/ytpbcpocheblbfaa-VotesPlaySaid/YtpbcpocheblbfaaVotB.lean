/- Votes, tags, signs: their cells, what is equal; laws of operations on variables of many cells. -/
import Derived.Test.YtpbcpocheblbfaaVotA
import Derived.Deep.MidRow
import Derived.Laws.StructEq
namespace Go.Proofs.Ytpbcpocheblbfaa
set_option linter.unusedVariables false
set_option linter.unusedSimpArgs false
open Go.RowKit Go.MapKept

structure Vt where
  kind : Int
  epoch : Int
  view : Int
  slot : Int
  dig : List UInt8
deriving DecidableEq
def vcells (v : Vt) : List Value := [.int .i64 v.kind, .int .i64 v.epoch, .int .i64 v.view, .int .i64 v.slot] ++ bv v.dig
abbrev vval (v : Vt) : Value := .agg (vcells v).toArray
abbrev tval (t : List UInt8) : Value := .agg (bv t).toArray
structure Vt.ok (v : Vt) : Prop where
  kind : I64 v.kind
  epoch : I64 v.epoch
  view : I64 v.view
  slot : I64 v.slot
  dig : v.dig.length = 32
theorem vcells_len {v : Vt} (h : v.ok) : (vcells v).length = 36 := by simp [vcells, bv_length, h.dig]
theorem bv_inj {xs ys : List UInt8} (h : bv xs = bv ys) : xs = ys := by
  unfold bv at h
  refine (List.map_inj_right (f := fun x : UInt8 => Value.int .u8 (x.toNat : Int)) ?_).1 h
  intro a b hab
  simp only [Value.int.injEq] at hab
  have : a.toNat = b.toNat := by have := hab.2; omega
  exact UInt8.toNat_inj.1 this
theorem tval_inj {s t : List UInt8} : tval s = tval t ↔ s = t := ⟨fun h => bv_inj (by simpa using h), fun h => by rw [h]⟩
theorem vcells_inj {u v : Vt} (h : vcells u = vcells v) : u = v := by
  cases u; cases v
  simp [vcells] at h
  obtain ⟨rfl, rfl, rfl, rfl, h⟩ := h
  rw [bv_inj h]
theorem vval_inj {u v : Vt} : vval u = vval v ↔ u = v := ⟨fun h => vcells_inj (by simpa using h), fun h => by rw [h]⟩
def scells (n : Int) (t : List UInt8) : List Value := .int .i64 n :: bv t
abbrev sval (n : Int) (t : List UInt8) : Value := .agg (scells n t).toArray
theorem sval_inj {m n : Int} {s t : List UInt8} : sval m s = sval n t ↔ m = n ∧ s = t := by
  constructor
  · intro h
    simp [scells] at h
    exact ⟨h.1, bv_inj h.2⟩
  · rintro ⟨rfl, rfl⟩; rfl

/-! ### They read as keys: so they can be compared -/
theorem mapM_some {α β : Type} {f : α → Option β} : ∀ (L : List α), (∀ x ∈ L, ∃ y, f x = some y) → ∃ ys, L.mapM f = some ys
  | [], _ => ⟨[], rfl⟩
  | x :: L, h => by
    obtain ⟨y, hy⟩ := h x (List.mem_cons_self ..)
    obtain ⟨ys, hys⟩ := mapM_some L (fun z hz => h z (List.mem_cons_of_mem _ hz))
    exact ⟨y :: ys, by simp [List.mapM_cons, hy, hys]⟩
theorem cellsU8 : Try.prog.cellsOf 5 = 1 := by kernel_rfl
theorem lits_u8 (d : Nat) (x : UInt8) : Try.prog.keyLits (d + 1) 5 [.int .u8 (x.toNat : Int)] = some [.int .u8 (x.toNat : Int)] := by
  simp only [Program.keyLits, Try.underlying5]
  rw [if_pos ⟨by trivial, by have := x.toNat_lt; simp [Lit.wf, IntKind.min, IntKind.max, IntKind.signed, IntKind.bits]; omega⟩]
theorem lits_bytes (d n : Nat) (t : TypeId) (ht : Try.prog.underlying t = some (.array n 5)) (hc : Try.prog.cellsOf t = n) (xs : List UInt8) (hl : xs.length = n) : ∃ ls, Try.prog.keyLits (d + 1 + 1) t (bv xs) = some ls := by
  unfold Program.keyLits
  simp only [ht, hc, bv_length, hl, if_true, cellsU8]
  obtain ⟨ys, hys⟩ := mapM_some (f := fun i => Try.prog.keyLits (d + 1) 5 (((bv xs).drop (i * 1)).take 1)) (List.range n) (fun i hi => by
    have hin : i < xs.length := by rw [hl]; exact List.mem_range.1 hi
    have e : ((bv xs).drop (i * 1)).take 1 = [.int .u8 ((xs.getD i 0).toNat : Int)] := by
      rw [Nat.mul_one]
      apply List.ext_getElem?
      intro j
      rw [List.getElem?_take, List.getElem?_drop]
      by_cases hj : j < 1
      · have : j = 0 := by omega
        subst this
        rw [if_pos hj, Nat.add_zero, bv_get xs i hin]; rfl
      · rw [if_neg hj]; simp; omega
    exact ⟨_, by rw [e]; exact lits_u8 d _⟩)
  exact ⟨ys.flatten, by rw [hys]; rfl⟩
theorem lits_int (d : Nat) (n : Int) (h : I64 n) : Try.prog.keyLits (d + 1) 3 [.int .i64 n] = some [.int .i64 n] := by
  unfold I64 at h
  simp only [Program.keyLits, Try.underlying3]
  rw [if_pos ⟨by trivial, h⟩]
theorem key_of_lits {t : TypeId} (hw : (match Try.prog.underlying t with | some (.array _ _) | some (.struct _) => true | _ => false) = true) (hk : Try.prog.keyType t = true) {cs : List Value} (hc : Try.prog.cellsOf t = cs.length)
    (h : ∀ d, ∃ ls, Try.prog.keyLits (d + 1 + 1 + 1) t cs = some ls) : ∃ l, keyOf Try.prog t (.agg cs.toArray) = some l := by
  obtain ⟨d, hd⟩ : ∃ d, Try.prog.types.size + 1 = d + 1 + 1 + 1 := ⟨Try.prog.types.size - 2, by kernel_rfl⟩
  obtain ⟨ls, hls⟩ := h d
  have hf : (Value.agg cs.toArray).formed Try.prog t = true := by
    unfold Value.formed
    split at hw <;> simp_all
  unfold keyOf
  split
  · rw [hk, hf, hd]
    simp only [Bool.and_self, if_true, Value.cells]
    exact ⟨_, by rw [hls]; rfl⟩
  · rw [hk, hf, hd]
    simp only [Bool.and_self, if_true, Value.cells]
    exact ⟨_, by rw [hls]; rfl⟩
  · rename_i h1 h2
    split at hw <;> simp_all
theorem cellsDig : Try.prog.cellsOf 28 = 32 := by kernel_rfl
theorem cellsTag : Try.prog.cellsOf 32 = 16 := by kernel_rfl
theorem cellsVote : Try.prog.cellsOf 30 = 36 := by kernel_rfl
theorem cellsSign : Try.prog.cellsOf 44 = 17 := by kernel_rfl
theorem key_dig {xs : List UInt8} (h : xs.length = 32) : ∃ l, keyOf Try.prog 28 (tval xs) = some l :=
  key_of_lits (by kernel_rfl) (by kernel_rfl) (by rw [bv_length, h]; exact cellsDig) fun d => lits_bytes (d + 1) 32 _ Try.underlying28 cellsDig xs h
theorem key_tag {xs : List UInt8} (h : xs.length = 16) : ∃ l, keyOf Try.prog 32 (tval xs) = some l :=
  key_of_lits (by kernel_rfl) (by kernel_rfl) (by rw [bv_length, h]; exact cellsTag) fun d => lits_bytes (d + 1) 16 _ Try.underlying32 cellsTag xs h
theorem key_sign {n : Int} {t : List UInt8} (hn : I64 n) (h : t.length = 16) : ∃ l, keyOf Try.prog 44 (sval n t) = some l := by
  refine key_of_lits (by kernel_rfl) (by kernel_rfl) (by simp [scells, bv_length, h]; exact cellsSign) fun d => ?_
  obtain ⟨ls, hls⟩ := lits_bytes d 16 _ Try.underlying32 cellsTag t h
  have e1 := lits_int (d + 1) n hn
  have e2 : (bv t).take 16 = bv t := List.take_of_length_le (by rw [bv_length, h]; omega)
  unfold Program.keyLits
  simp only [Try.underlying44, cellsSign]
  rw [if_pos ⟨by simp [scells, bv_length, h], by kernel_rfl⟩]
  simp [scells, cellsInt, cellsTag, e1, e2, hls]
theorem key_vote {v : Vt} (h : v.ok) : ∃ l, keyOf Try.prog 30 (vval v) = some l := by
  refine key_of_lits (by kernel_rfl) (by kernel_rfl) (by rw [vcells_len h]; exact cellsVote) fun d => ?_
  obtain ⟨ls, hls⟩ := lits_bytes d 32 _ Try.underlying28 cellsDig v.dig h.dig
  have e1 := lits_int (d + 1) _ h.kind
  have e3 := lits_int (d + 1) _ h.epoch
  have e4 := lits_int (d + 1) _ h.view
  have e5 := lits_int (d + 1) _ h.slot
  have e2 : (bv v.dig).take 32 = bv v.dig := List.take_of_length_le (by rw [bv_length, h.dig]; omega)
  unfold Program.keyLits
  simp only [Try.underlying30, cellsVote]
  rw [if_pos ⟨vcells_len h, by kernel_rfl⟩]
  simp [vcells, cellsInt, cellsDig, e1, e2, e3, e4, e5, hls]
theorem eq_run {t : TypeId} (hrow : t < Try.prog.types.size) (hk : Try.prog.keyTypeAt 3 t = true) (hw : (match Try.prog.underlying t with | some (.array _ _) | some (.struct _) => true | _ => false) = true) {x y : Value}
    (hx : ∃ l, keyOf Try.prog t x = some l) (hy : ∃ l, keyOf Try.prog t y = some l) {p : Prop} [Decidable p] (hp : x = y ↔ p) (w : World) : (Op.equal t x y).run Try.prog w = .ok (decide p) w := by
  obtain ⟨lx, hx⟩ := hx
  obtain ⟨ly, hy⟩ := hy
  obtain ⟨r, hr, hiff⟩ := run_equal_deep w (m := 3) (by omega) hk hw hx hy
  have hl := deep_law_laid laidOutV (m := 3) (by omega) hrow hk hw
  have : r = decide p := by
    by_cases h : p
    · rw [decide_eq_true h]
      have hxy := hp.2 h
      subst hxy
      rw [hx] at hy
      exact hiff.2 (by cases hy; rfl)
    · rw [decide_eq_false h]
      cases r with
      | false => rfl
      | true => exact absurd (hp.1 (hl.inj hx (by rw [hiff.1 rfl]; exact hy))) h
  rw [hr, this]
theorem exec_eql {o : Oper} {ρ : Operand → Value} {t t' : TypeId} {x y : Operand} {xs ys : Array Value} {b : Bool} {w : World} (ho : o.op = .binOp .eql t x y t') (hx : ρ x = .agg xs) (hy : ρ y = .agg ys)
    (hg : Try.prog.eqGuardType Try.prog.depth t = false) (h : (Op.equal t (.agg xs) (.agg ys)).run Try.prog w = .ok b w) : (execOp ρ o).run Try.prog w = .ok (.value (.bool b)) w := by
  unfold execOp
  simp only [ho, hx, hy]
  simp [run_eqGuard_agg w .eql t x y xs ys hg, binOp, h]
theorem exec_neq {o : Oper} {ρ : Operand → Value} {t t' : TypeId} {x y : Operand} {xs ys : Array Value} {b : Bool} {w : World} (ho : o.op = .binOp .neq t x y t') (hx : ρ x = .agg xs) (hy : ρ y = .agg ys)
    (hg : Try.prog.eqGuardType Try.prog.depth t = false) (h : (Op.equal t (.agg xs) (.agg ys)).run Try.prog w = .ok b w) : (execOp ρ o).run Try.prog w = .ok (.value (.bool (!b))) w := by
  unfold execOp
  simp only [ho, hx, hy]
  simp [run_eqGuard_agg w .neq t x y xs ys hg, binOp, h]
theorem vote_eql {o : Oper} {ρ : Operand → Value} {x y : Operand} {t' : TypeId} {u v : Vt} (w : World) (hu : u.ok) (hv : v.ok) (ho : o.op = .binOp .eql 30 x y t') (hx : ρ x = vval u) (hy : ρ y = vval v) :
    (execOp ρ o).run Try.prog w = .ok (.value (.bool (decide (u = v)))) w := by
  rw [exec_eql ho hx hy (by kernel_rfl) (eq_run (of_decide_eq_true (by kernel_rfl)) (by kernel_rfl) (by kernel_rfl) (key_vote hu) (key_vote hv) vval_inj w)]
theorem vote_neq {o : Oper} {ρ : Operand → Value} {x y : Operand} {t' : TypeId} {u v : Vt} (w : World) (hu : u.ok) (hv : v.ok) (ho : o.op = .binOp .neq 30 x y t') (hx : ρ x = vval u) (hy : ρ y = vval v) :
    (execOp ρ o).run Try.prog w = .ok (.value (.bool (!decide (u = v)))) w := by
  rw [exec_neq ho hx hy (by kernel_rfl) (eq_run (of_decide_eq_true (by kernel_rfl)) (by kernel_rfl) (by kernel_rfl) (key_vote hu) (key_vote hv) vval_inj w)]
theorem tag_eql {o : Oper} {ρ : Operand → Value} {x y : Operand} {t' : TypeId} {s t : List UInt8} (w : World) (hu : s.length = 16) (hv : t.length = 16) (ho : o.op = .binOp .eql 32 x y t') (hx : ρ x = tval s) (hy : ρ y = tval t) :
    (execOp ρ o).run Try.prog w = .ok (.value (.bool (decide (s = t)))) w := by
  rw [exec_eql ho hx hy (by kernel_rfl) (eq_run (of_decide_eq_true (by kernel_rfl)) (by kernel_rfl) (by kernel_rfl) (key_tag hu) (key_tag hv) tval_inj w)]
theorem tag_neq {o : Oper} {ρ : Operand → Value} {x y : Operand} {t' : TypeId} {s t : List UInt8} (w : World) (hu : s.length = 16) (hv : t.length = 16) (ho : o.op = .binOp .neq 32 x y t') (hx : ρ x = tval s) (hy : ρ y = tval t) :
    (execOp ρ o).run Try.prog w = .ok (.value (.bool (!decide (s = t)))) w := by
  rw [exec_neq ho hx hy (by kernel_rfl) (eq_run (of_decide_eq_true (by kernel_rfl)) (by kernel_rfl) (by kernel_rfl) (key_tag hu) (key_tag hv) tval_inj w)]
theorem dig_neq {o : Oper} {ρ : Operand → Value} {x y : Operand} {t' : TypeId} {s t : List UInt8} (w : World) (hu : s.length = 32) (hv : t.length = 32) (ho : o.op = .binOp .neq 28 x y t') (hx : ρ x = tval s) (hy : ρ y = tval t) :
    (execOp ρ o).run Try.prog w = .ok (.value (.bool (!decide (s = t)))) w := by
  rw [exec_neq ho hx hy (by kernel_rfl) (eq_run (of_decide_eq_true (by kernel_rfl)) (by kernel_rfl) (by kernel_rfl) (key_dig hu) (key_dig hv) tval_inj w)]
theorem sign_eql {o : Oper} {ρ : Operand → Value} {x y : Operand} {t' : TypeId} {m n : Int} {s t : List UInt8} (w : World) (hm : I64 m) (hn : I64 n) (hu : s.length = 16) (hv : t.length = 16) (ho : o.op = .binOp .eql 44 x y t') (hx : ρ x = sval m s) (hy : ρ y = sval n t) :
    (execOp ρ o).run Try.prog w = .ok (.value (.bool (decide (m = n ∧ s = t)))) w := by
  rw [exec_eql ho hx hy (by kernel_rfl) (eq_run (of_decide_eq_true (by kernel_rfl)) (by kernel_rfl) (by kernel_rfl) (key_sign hm hu) (key_sign hn hv) sval_inj w)]
theorem sign_neq {o : Oper} {ρ : Operand → Value} {x y : Operand} {t' : TypeId} {m n : Int} {s t : List UInt8} (w : World) (hm : I64 m) (hn : I64 n) (hu : s.length = 16) (hv : t.length = 16) (ho : o.op = .binOp .neq 44 x y t') (hx : ρ x = sval m s) (hy : ρ y = sval n t) :
    (execOp ρ o).run Try.prog w = .ok (.value (.bool (!decide (m = n ∧ s = t)))) w := by
  rw [exec_neq ho hx hy (by kernel_rfl) (eq_run (of_decide_eq_true (by kernel_rfl)) (by kernel_rfl) (by kernel_rfl) (key_sign hm hu) (key_sign hn hv) sval_inj w)]

end Go.Proofs.Ytpbcpocheblbfaa
