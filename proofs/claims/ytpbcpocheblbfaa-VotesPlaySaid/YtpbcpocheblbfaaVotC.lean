/- Laws of operations on variables of many cells, on the map of votes, and of a range over it. -/
import Derived.Test.YtpbcpocheblbfaaVotB
import Derived.Great.Walk
import Derived.Maps.RangeWalk
import Derived.Deep.WholeRow
namespace Go.Proofs.Ytpbcpocheblbfaa
set_option linter.unusedVariables false
set_option linter.unusedSimpArgs false
open Go.RowKit Go.MapKept
open Go.ChangeMaps (setBlock)

def zeroV : Vt := ⟨0, 0, 0, 0, List.replicate 32 0⟩
def zeroT : List UInt8 := List.replicate 16 0
abbrev One := Vt × List UInt8
def zeroX : One := (zeroV, zeroT)
def ocells (x : One) : List Value := vcells x.1 ++ bv x.2
abbrev oval (x : One) : Value := .agg (ocells x).toArray
structure One.ok (x : One) : Prop where
  vote : x.1.ok
  tag : x.2.length = 16
theorem zeroV_ok : zeroV.ok := ⟨by unfold I64; decide, by unfold I64; decide, by unfold I64; decide, by unfold I64; decide, by decide⟩
theorem zeroX_ok : One.ok zeroX := ⟨zeroV_ok, by decide⟩
theorem ocells_len {x : One} (h : x.ok) : (ocells x).length = 52 := by simp [ocells, vcells_len h.vote, bv_length, h.tag]
theorem bv_one' (xs : List UInt8) : ∀ u ∈ bv xs, u.oneCell' = true := by
  intro u hu
  obtain ⟨x, _, rfl⟩ := List.mem_map.1 hu
  rfl
theorem vcells_one (v : Vt) : ∀ u ∈ vcells v, u.oneCell' = true := by
  intro u hu
  rcases List.mem_append.1 hu with hu | hu
  · simp at hu
    rcases hu with rfl | rfl | rfl | rfl <;> rfl
  · exact bv_one' _ u hu
theorem ocells_one (x : One) : ∀ u ∈ ocells x, u.oneCell' = true := fun u hu => (List.mem_append.1 hu).elim (vcells_one _ u) (bv_one' _ u)
theorem scells_one (n : Int) (t : List UInt8) : ∀ u ∈ scells n t, u.oneCell' = true := fun u hu => (List.mem_cons.1 hu).elim (fun e => by rw [e]; rfl) (bv_one' _ u)
theorem sizeVote {v : Vt} (h : v.ok) : (Try.prog.info? 30).map (·.size) = some (vcells v).length := by rw [vcells_len h]; kernel_rfl
theorem sizeTag {t : List UInt8} (h : t.length = 16) : (Try.prog.info? 32).map (·.size) = some (bv t).length := by rw [bv_length, h]; kernel_rfl
theorem sizeDig {t : List UInt8} (h : t.length = 32) : (Try.prog.info? 28).map (·.size) = some (bv t).length := by rw [bv_length, h]; kernel_rfl
theorem sizeOne {x : One} (h : x.ok) : (Try.prog.info? 62).map (·.size) = some (ocells x).length := by rw [ocells_len h]; kernel_rfl
theorem sizeSign {n : Int} {t : List UInt8} (h : t.length = 16) : (Try.prog.info? 44).map (·.size) = some (scells n t).length := by simp only [scells, List.length_cons, bv_length, h]; kernel_rfl
theorem range_of_blk {w : World} {b : Nat} {cs : List Value} {t : TypeId} (h : Blk w b cs.toArray t) : w.rangeAt b 0 cs := fun j v hv => by
  rw [Nat.zero_add, h.cell j]; simpa using hv
theorem range_part {w : World} {b o : Nat} {xs ys : List Value} (h : w.rangeAt b o (xs ++ ys)) : w.rangeAt b o xs ∧ w.rangeAt b (o + xs.length) ys :=
  ⟨fun j v hv => h j v (by rw [List.getElem?_append_left (List.getElem?_eq_some_iff.1 hv).1]; exact hv), fun j v hv => by
    have := h (xs.length + j) v (by rw [List.getElem?_append_right (by omega), show xs.length + j - xs.length = j by omega]; exact hv)
    rw [← Nat.add_assoc] at this; exact this⟩
theorem range_below {w w' : World} {b o : Nat} {cs : List Value} (h : w.rangeAt b o cs) (hb : Below w.heap.size w w') : w'.rangeAt b o cs := fun j v hv => by
  have := h j v hv
  exact (hb.cell (World.block_lt_of_cell? w _ this)).trans this
theorem range_fr {F : Nat → Prop} {w w' : World} {b o : Nat} {cs : List Value} (h : w.rangeAt b o cs) (hf : Fr F w w') (hn : ¬ F b) : w'.rangeAt b o cs := fun j v hv => by
  have := h j v hv
  have hl := World.block_lt_of_cell? w _ this
  rw [← this]
  exact World.cell?_of_block (a := ⟨b, o + j, none⟩) (hf.block b hl hn)

section
variable {ops : Array Oper} {rest : List Oper} {o : Oper} {a : Act} {w : World} {K : Act → World → Prop} {Q : Exit → Act → World → Prop}
theorem wp_val {v : Value} {w' : World} (hrun : (execOp a.eval o).run Try.prog w = .ok (.value v) w') (h : K (a.put o.dst v) w') : o.wp Try.prog a w K Q := by
  unfold Oper.wp
  rw [hrun, Oper.upon_value]
  exact h
theorem wp_skip {w' : World} (hrun : (execOp a.eval o).run Try.prog w = .ok .skip w') (h : K (a.put o.dst undef) w') : o.wp Try.prog a w K Q := by
  unfold Oper.wp
  rw [hrun, Oper.upon_skip]
  exact h
theorem wpList_val {v : Value} {w' : World} (hg : o.guard = none) (hrun : (execOp a.eval o).run Try.prog w = .ok (.value v) w') (h : wpList Try.prog ops Q rest (a.put o.dst v) w') : wpList Try.prog ops Q (o :: rest) a w :=
  wpList_plain hg fun K hK => wp_val hrun (hK _ _ h)
/-- A new variable. -/
theorem wp_alloc_big (t : TypeId) (ho : o.op = .alloc t) (z : Array Value) (n : Nat) (hz : (Try.prog.info? t).map (fun i => (i.zero, i.size)) = some (some (.agg z), n))
    (h : ∀ b w', Hid (w.heap.size = b) → Blk w' b z t → Below w.heap.size w w' → Hid (w'.heap.size = b + 1) → K (a.put o.dst (.pointer (some ⟨b, 0, none⟩))) w') : o.wp Try.prog a w K Q := by
  refine wp_val (w' := w.alloc (.cells z t)) ?_ (h _ _ (Lib.hid rfl) (Blk.new w z t) ((Below.refl _ _).alloc (Nat.le_refl _) _) (Lib.hid (by simp)))
  have hzero := (zero_of_info hz).1 w
  unfold execOp
  simp only [ho, Instr.alloc, Sem.run_bind, hzero, Result.andThen_ok, newVar, newRow, run_newObj_alloc, Sem.run_pure, Value.cells]
theorem wpList_alloc_big (hg : o.guard = none) (t : TypeId) (ho : o.op = .alloc t) (z : Array Value) (n : Nat) (hz : (Try.prog.info? t).map (fun i => (i.zero, i.size)) = some (some (.agg z), n))
    (h : ∀ b w', Hid (w.heap.size = b) → Blk w' b z t → Below w.heap.size w w' → Hid (w'.heap.size = b + 1) → wpList Try.prog ops Q rest (a.put o.dst (.pointer (some ⟨b, 0, none⟩))) w') : wpList Try.prog ops Q (o :: rest) a w :=
  wpList_plain hg fun K hK => wp_alloc_big t ho z n hz fun b w' h0 h1 h2 h3 => hK _ _ (h b w' h0 h1 h2 h3)
theorem wp_box_big (t : TypeId) (x : Operand) (ho : o.op = .box t x) (cs : Array Value) (hx : a.eval x = .agg cs)
    (h : ∀ b w', Hid (w.heap.size = b) → Blk w' b cs t → Below w.heap.size w w' → Hid (w'.heap.size = b + 1) → K (a.put o.dst (.pointer (some ⟨b, 0, none⟩))) w') : o.wp Try.prog a w K Q := by
  refine wp_val (w' := w.alloc (.cells cs t)) ?_ (h _ _ (Lib.hid rfl) (Blk.new w cs t) ((Below.refl _ _).alloc (Nat.le_refl _) _) (Lib.hid (by simp)))
  unfold execOp
  simp only [ho, hx, Instr.box, newVar, newRow, Sem.run_bind, run_newObj_alloc, Sem.run_pure, Result.andThen_ok, Value.cells]
theorem wpList_box_big (hg : o.guard = none) (t : TypeId) (x : Operand) (ho : o.op = .box t x) (cs : Array Value) (hx : a.eval x = .agg cs)
    (h : ∀ b w', Hid (w.heap.size = b) → Blk w' b cs t → Below w.heap.size w w' → Hid (w'.heap.size = b + 1) → wpList Try.prog ops Q rest (a.put o.dst (.pointer (some ⟨b, 0, none⟩))) w') : wpList Try.prog ops Q (o :: rest) a w :=
  wpList_plain hg fun K hK => wp_box_big t x ho cs hx fun b w' h0 h1 h2 h3 => hK _ _ (h b w' h0 h1 h2 h3)
theorem setRow_facts {b : Nat} {old cs : Array Value} {t : TypeId} (hb : Blk w b old t) : Blk (w.setRow b cs) b cs t ∧ Fr (fun k => k = b) w (w.setRow b cs) ∧ (w.setRow b cs).heap.size = w.heap.size :=
  ⟨setRow_heap w b old cs t (0, 0) hb, ⟨rfl, rfl, rfl, by simp [World.setRow], fun k hk hne => by
    simp only [World.setRow]
    rw [Array.getElem?_modify, if_neg (fun e => hne e.symm)]⟩, by simp [World.setRow]⟩
/-- A value into a whole variable. -/
theorem wp_store_big (ty : TypeId) (x y : Operand) (ho : o.op = .store ty x y) (b : Nat) (hx : a.eval x = .pointer (some ⟨b, 0, none⟩)) (cs : List Value) (hy : a.eval y = .agg cs.toArray) (t : TypeId) (old : Array Value)
    (hb : Blk w b old t) (hi : (Try.prog.info? ty).map (·.size) = some cs.length) (hold : old.size = cs.length) (h1 : ∀ v ∈ cs, v.oneCell' = true)
    (h : ∀ w', Blk w' b cs.toArray t → Fr (fun k => k = b) w w' → Hid (w'.heap.size = w.heap.size) → K (a.put o.dst undef) w') : o.wp Try.prog a w K Q := by
  obtain ⟨f1, f2, f3⟩ := setRow_facts (cs := cs.toArray) hb
  exact wp_store_row ty x y ho b _ hx hy t old hb (by simpa using hi) (by simpa using hold) (all_oneCell_toArray h1) (h _ f1 f2 (Lib.hid f3))
theorem wpList_store_big (hg : o.guard = none) (ty : TypeId) (x y : Operand) (ho : o.op = .store ty x y) (b : Nat) (hx : a.eval x = .pointer (some ⟨b, 0, none⟩)) (cs : List Value) (hy : a.eval y = .agg cs.toArray) (t : TypeId) (old : Array Value)
    (hb : Blk w b old t) (hi : (Try.prog.info? ty).map (·.size) = some cs.length) (hold : old.size = cs.length) (h1 : ∀ v ∈ cs, v.oneCell' = true)
    (h : ∀ w', Blk w' b cs.toArray t → Fr (fun k => k = b) w w' → Hid (w'.heap.size = w.heap.size) → wpList Try.prog ops Q rest (a.put o.dst undef) w') : wpList Try.prog ops Q (o :: rest) a w :=
  wpList_plain hg fun K hK => wp_store_big ty x y ho b hx cs hy t old hb hi hold h1 fun w' h1 h2 h3 => hK _ _ (h w' h1 h2 h3)
theorem exec_load {ρ : Operand → Value} (ty : TypeId) (x : Operand) (ho : o.op = .load ty x) (b off : Nat) (hx : ρ x = .pointer (some ⟨b, off, none⟩)) (cs : List Value) (d : TypeDesc) (hc : w.rangeAt b off cs)
    (hu : Try.prog.underlying ty = some d) (hd : d.isRow = true) (hi : (Try.prog.info? ty).map (·.size) = some cs.length) : (execOp ρ o).run Try.prog w = .ok (.value (.agg cs.toArray)) w := by
  unfold execOp
  simp only [ho, hx, Instr.loadAt, Instr.sureAddr, Sem.run_bind, Sem.run_pure, Result.andThen_ok, run_loadVar_mid w b off ty cs d hc hu hd hi]
theorem load_vote {ρ : Operand → Value} {x : Operand} {b off : Nat} {v : Vt} (hv : v.ok) (hc : w.rangeAt b off (vcells v)) (ho : o.op = .load 30 x) (hx : ρ x = .pointer (some ⟨b, off, none⟩)) : (execOp ρ o).run Try.prog w = .ok (.value (vval v)) w :=
  exec_load _ x ho b off hx _ _ hc Try.underlying30 rfl (sizeVote hv)
theorem load_tag {ρ : Operand → Value} {x : Operand} {b off : Nat} {t : List UInt8} (ht : t.length = 16) (hc : w.rangeAt b off (bv t)) (ho : o.op = .load 32 x) (hx : ρ x = .pointer (some ⟨b, off, none⟩)) : (execOp ρ o).run Try.prog w = .ok (.value (tval t)) w :=
  exec_load _ x ho b off hx _ _ hc Try.underlying32 rfl (sizeTag ht)
theorem load_dig {ρ : Operand → Value} {x : Operand} {b off : Nat} {t : List UInt8} (ht : t.length = 32) (hc : w.rangeAt b off (bv t)) (ho : o.op = .load 28 x) (hx : ρ x = .pointer (some ⟨b, off, none⟩)) : (execOp ρ o).run Try.prog w = .ok (.value (tval t)) w :=
  exec_load _ x ho b off hx _ _ hc Try.underlying28 rfl (sizeDig ht)
theorem load_sign {ρ : Operand → Value} {x : Operand} {b off : Nat} {n : Int} {t : List UInt8} (ht : t.length = 16) (hc : w.rangeAt b off (scells n t)) (ho : o.op = .load 44 x) (hx : ρ x = .pointer (some ⟨b, off, none⟩)) : (execOp ρ o).run Try.prog w = .ok (.value (sval n t)) w :=
  exec_load _ x ho b off hx _ _ hc Try.underlying44 rfl (sizeSign ht)

/-! ### Structs put together -/
theorem fold_at (zs : List Value) : ∀ (xs : List Value) (ys : List Value) (off : Nat) (pre : List Value), pre.length = off → ys.length = xs.length →
    (xs.zipIdx off).foldl (fun cs (p : Value × Nat) => cs.setIfInBounds p.2 p.1) ((pre ++ ys ++ zs).toArray) = (pre ++ xs ++ zs).toArray
  | [], ys, off, pre, hp, hl => by
    have : ys = [] := List.eq_nil_of_length_eq_zero hl
    subst this; rfl
  | x :: xs, [], off, pre, hp, hl => by simp at hl
  | x :: xs, y :: ys, off, pre, hp, hl => by
    rw [List.zipIdx_cons, List.foldl_cons]
    have e : (pre ++ (y :: ys) ++ zs).toArray.setIfInBounds off x = ((pre ++ [x]) ++ ys ++ zs).toArray := by
      subst hp
      simp
    rw [e, fold_at zs xs ys (off + 1) (pre ++ [x]) (by simp [hp]) (by simpa using hl)]
    simp
theorem fill_one {place : Nat → Option (Nat × Nat)} {i off size : Nat} {pre ys zs xs : List Value} {rest : List (Nat × Value)} (hp : place i = some (off, size)) (h1 : pre.length = off) (h2 : xs.length = size) (h3 : ys.length = size) {v : Value} (hv : v.cells = xs.toArray) :
    Instr.fill place (pre ++ ys ++ zs).toArray ((i, v) :: rest) = Instr.fill place (pre ++ xs ++ zs).toArray rest := by
  rw [Instr.fill, hp]
  simp only [hv]
  rw [if_neg (by simp [h2, h1, h3])]
  congr 1
  have := fold_at zs xs ys off pre h1 (by rw [h3, h2])
  rw [← this]
  have hz : ∀ (l : List Value) (k n : Nat) (c : Array Value), (l.zipIdx k).foldl (fun cs (p : Value × Nat) => cs.setIfInBounds (n + p.2) p.1) c = (l.zipIdx (n + k)).foldl (fun cs (p : Value × Nat) => cs.setIfInBounds p.2 p.1) c := by
    intro l
    induction l with
    | nil => intros; rfl
    | cons x l ih => intro k n c; rw [List.zipIdx_cons, List.zipIdx_cons, List.foldl_cons, List.foldl_cons, ih (k + 1) n]; rfl
  have h4 := hz xs 0 off (pre ++ ys ++ zs).toArray
  rw [Nat.add_zero] at h4
  rw [← h4, ← Array.foldl_toList, Array.toList_zipIdx]
end

/-! ### The structs that are put together -/
theorem built_of {t : TypeId} {fs : Array Field} {z : List Value} {n : Nat} {parts : List (Nat × Value)} {places : List (Nat × Nat)} {cells : Array Value} (hu : Try.prog.underlying t = some (.struct fs)) (hz : (Try.prog.info? t).map (fun i => (i.zero, i.size)) = some (some (.agg z.toArray), n))
    (hp : fs.toList.mapM (fun f => (Try.prog.info? f.type).map fun i => (f.offset, i.size)) = some places) (hf : Instr.fill (places.toArray[·]?) z.toArray parts = some cells) : Try.prog.built t parts = some cells := by
  unfold Program.built
  cases hi : Try.prog.info? t with
  | none => simp [hi] at hz
  | some i =>
    simp [hi] at hz
    simp only [hu, hz.1, hp, Value.cells]
    exact hf
theorem built_one {v : Vt} {t : List UInt8} (hv : v.ok) (ht : t.length = 16) : Try.prog.built 62 [(0, vval v), (1, tval t)] = some (ocells (v, t)).toArray := by
  refine built_of (z := vcells zeroV ++ bv zeroT) (n := 52) (places := [(0, 36), (36, 16)]) Try.underlying62 (by kernel_rfl) (by kernel_rfl) ?_
  have e1 := fill_one (place := ([(0, 36), (36, 16)].toArray[·]?)) (i := 0) (off := 0) (size := 36) (pre := []) (ys := vcells zeroV) (zs := bv zeroT) (xs := vcells v) (rest := [(1, tval t)]) rfl rfl (vcells_len hv) (by decide) (v := vval v) rfl
  have e2 := fill_one (place := ([(0, 36), (36, 16)].toArray[·]?)) (i := 1) (off := 36) (size := 16) (pre := vcells v) (ys := bv zeroT) (zs := []) (xs := bv t) (rest := []) rfl (vcells_len hv) (by rw [bv_length, ht]) (by decide) (v := tval t) rfl
  simp only [List.nil_append, List.append_nil] at e1 e2
  rw [e1, e2]
  rfl
theorem built_sign {n : Int} {t : List UInt8} (ht : t.length = 16) : Try.prog.built 44 [(0, .int .i64 n), (1, tval t)] = some (scells n t).toArray := by
  refine built_of (z := scells 0 zeroT) (n := 17) (places := [(0, 1), (1, 16)]) Try.underlying44 (by kernel_rfl) (by kernel_rfl) ?_
  have e1 := fill_one (place := ([(0, 1), (1, 16)].toArray[·]?)) (i := 0) (off := 0) (size := 1) (pre := []) (ys := [.int .i64 0]) (zs := bv zeroT) (xs := [.int .i64 n]) (rest := [(1, tval t)]) rfl rfl rfl rfl (v := .int .i64 n) rfl
  have e2 := fill_one (place := ([(0, 1), (1, 16)].toArray[·]?)) (i := 1) (off := 1) (size := 16) (pre := [.int .i64 n]) (ys := bv zeroT) (zs := []) (xs := bv t) (rest := []) rfl rfl (by rw [bv_length, ht]) (by decide) (v := tval t) rfl
  simp only [List.nil_append, List.append_nil] at e1 e2
  show Instr.fill _ ([Value.int .i64 0] ++ bv zeroT).toArray _ = _
  rw [e1, e2]
  rfl
def ccells (v : Vt) (s : Value) : List Value := vcells v ++ [s]
abbrev cval (v : Vt) (s : Value) : Value := .agg (ccells v s).toArray
theorem built_cert {v : Vt} (hv : v.ok) : Try.prog.built 39 [(0, vval v)] = some (ccells v (.slice none 0 0)).toArray := by
  refine built_of (z := vcells zeroV ++ [.slice none 0 0]) (n := 37) (places := [(0, 36), (36, 1)]) Try.underlying39 (by kernel_rfl) (by kernel_rfl) ?_
  have e1 := fill_one (place := ([(0, 36), (36, 1)].toArray[·]?)) (i := 0) (off := 0) (size := 36) (pre := []) (ys := vcells zeroV) (zs := [.slice none 0 0]) (xs := vcells v) (rest := []) rfl rfl (vcells_len hv) (by decide) (v := vval v) rfl
  simp only [List.nil_append] at e1
  rw [e1]
  rfl
theorem built_cert0 : Try.prog.built 39 [] = some (ccells zeroV (.slice none 0 0)).toArray := by kernel_rfl
theorem built_vote0 : Try.prog.built 30 [] = some (vcells zeroV).toArray := by kernel_rfl
theorem built_tag0 : Try.prog.built 32 [] = some (bv zeroT).toArray := by kernel_rfl
theorem built_key (k n : Int) : Try.prog.built 60 [(0, .int .i64 k), (1, .int .i64 n)] = some #[.int .i64 k, .int .i64 n] := by
  refine built_of (z := [.int .i64 0, .int .i64 0]) (n := 2) (places := [(0, 1), (1, 1)]) Try.underlying60 (by kernel_rfl) (by kernel_rfl) ?_
  rfl

section
variable {ops : Array Oper} {rest : List Oper} {o : Oper} {a : Act} {w : World} {K : Act → World → Prop} {Q : Exit → Act → World → Prop}
theorem exec_build {ρ : Operand → Value} (t : TypeId) (parts : Array (Nat × Operand)) (ho : o.op = .build t parts) (cells : Array Value) (hf : Try.prog.built t (parts.map fun (i, x) => (i, ρ x)).toList = some cells) : (execOp ρ o).run Try.prog w = .ok (.value (.agg cells)) w := by
  unfold execOp
  simp only [ho, Sem.run_bind, run_build w t _ cells hf, Result.andThen_ok, Sem.run_pure]
theorem exec_look {ρ : Operand → Value} (m x : Operand) (ho : o.op = .lookup 53 m x true) (mb : Nat) (hm : ρ m = .map (some mb)) (k : Int × Int) (hx : ρ x = kval k) (M : List (Ent One)) (hM : MapV oval w mb M) (h1 : I64 k.1) (h2 : I64 k.2) :
    (execOp ρ o).run Try.prog w = .ok (.value (.tuple #[((lookM M k).map oval).getD (oval zeroX), .bool (lookM M k).isSome])) w := by
  have hz := (zero_of_info (P := Try.prog) (t := 62) (v := oval zeroX) (n := 52) (by kernel_rfl)).1
  unfold execOp
  simp only [ho, hm, hx, Sem.run_bind, run_look Try.underlying53 hz hM h1 h2, Result.andThen_ok, Sem.run_pure]
theorem wp_put (m x y : Operand) (ho : o.op = .mapUpdate 53 m x y) (mb : Nat) (hm : a.eval m = .map (some mb)) (k : Int × Int) (hx : a.eval x = kval k) (e : One) (hy : a.eval y = oval e) (M : List (Ent One)) (hM : MapV oval w mb M) (h1 : I64 k.1) (h2 : I64 k.2)
    (h : ∀ w', MapV oval w' mb (putM M k e) → Fr (fun b => b = mb) w w' → Hid (w'.heap.size = w.heap.size) → K (a.put o.dst undef) w') : o.wp Try.prog a w K Q := by
  obtain ⟨w', r1, r2, r3, r4⟩ := run_put Try.underlying53 hM h1 h2 e
  refine wp_skip (w' := w') ?_ (h w' r2 r3 (Lib.hid r4))
  unfold execOp
  simp only [ho, hm, hx, hy, Sem.run_bind, r1, Result.andThen_ok, Sem.run_pure]
/-- A range over the map is under way; what is left. -/
def IterV (w : World) (mb r : Nat) (M L : List (Ent One)) : Prop := ∃ es clock D since seen c0, w.heap[mb]? = some (.map es clock) ∧ Holds oval es clock D M ∧ w.heap[r]? = some (.mapIter (some mb) since seen c0) ∧ (∀ x ∈ es.toList, x.born < since) ∧ since ≤ c0 ∧ since ≤ clock ∧ (leftOf es seen).toList.map D = L
theorem IterV.left_eq {mb r : Nat} {M L : List (Ent One)} (h : IterV w mb r M L) : w.rangeLeft mb r = L.length := by
  obtain ⟨es, clock, D, since, seen, c0, h1, _, h3, _, _, _, h7⟩ := h
  simp only [World.rangeLeft, h1, h3]
  rw [← h7, List.length_map]
  simp
theorem IterV.mapv {mb r : Nat} {M L : List (Ent One)} (h : IterV w mb r M L) : MapV oval w mb M := by
  obtain ⟨es, clock, D, since, seen, c0, h1, h2, _⟩ := h
  exact ⟨es, clock, D, h1, h2⟩
theorem IterV.lt {mb r : Nat} {M L : List (Ent One)} (h : IterV w mb r M L) : r < w.heap.size := by
  obtain ⟨es, clock, D, since, seen, c0, _, _, h3, _⟩ := h
  exact (Array.getElem?_eq_some_iff.1 h3).1
theorem IterV.fr {F : Nat → Prop} {w' : World} {mb r : Nat} {M L : List (Ent One)} (h : IterV w mb r M L) (hf : Fr F w w') (h1 : ¬ F mb) (h2 : ¬ F r) : IterV w' mb r M L := by
  have l1 := h.mapv.lt
  have l2 := h.lt
  obtain ⟨es, clock, D, since, seen, c0, e1, e2, e3, e4⟩ := h
  exact ⟨es, clock, D, since, seen, c0, (hf.block mb l1 h1).trans e1, e2, (hf.block r l2 h2).trans e3, e4⟩
theorem IterV.below {w' : World} {mb r : Nat} {M L : List (Ent One)} (h : IterV w mb r M L) (hb : Below w.heap.size w w') : IterV w' mb r M L := h.fr (Fr.of_below (F := fun _ => False) hb) (fun h => h) (fun h => h)
theorem wpList_range_v (hg : o.guard = none) (m : Operand) (ho : o.op = .range 53 m) (mb : Nat) (hm : a.eval m = .map (some mb)) (M : List (Ent One)) (hM : MapV oval w mb M)
    (h : ∀ r w', Hid (w.heap.size = r) → IterV w' mb r M M → Below w.heap.size w w' → Hid (w'.heap.size = r + 1) → wpList Try.prog ops Q rest (a.put o.dst (.pointer (some ⟨r, 0, none⟩))) w') : wpList Try.prog ops Q (o :: rest) a w := by
  have hlt := hM.lt
  obtain ⟨es, clock, D, hb, hh⟩ := hM
  refine wpList_val hg (v := .pointer (some ⟨w.heap.size, 0, none⟩)) (w' := w.alloc (.mapIter (some mb) clock #[] clock)) ?_ (h _ _ (Lib.hid rfl) ⟨es, clock, D, clock, #[], clock, (Go.heap_alloc_old w _ hlt).trans hb, hh, heap_alloc_new w _, ((stamped_iff es clock).1 hh.st).1, Nat.le_refl _, Nat.le_refl _, ?_⟩ ((Below.refl _ _).alloc (Nat.le_refl _) _) (Lib.hid (by simp)))
  · unfold execOp
    simp only [ho, hm, Sem.run_bind, run_range_map w _ _ _ mb es clock Try.underlying53 hb, Result.andThen_ok, Sem.run_pure]
  · rw [← hh.list]
    congr 1
    simp [leftOf]
theorem wpList_next_v (hg : o.guard = none) (it : Operand) (ho : o.op = .next it false) (mb r : Nat) (M L : List (Ent One)) (hit : a.eval it = .pointer (some ⟨r, 0, none⟩)) (hI : IterV w mb r M L)
    (hDone : L = [] → wpList Try.prog ops Q rest (a.put o.dst (.tuple #[.bool false])) w)
    (hMore : ∀ (p : Ent One) (L' : List (Ent One)) (w' : World), L.Perm (p :: L') → IterV w' mb r M L' → Fr (fun b => b = r) w w' → Hid (w'.heap.size = w.heap.size) → Hid ((Instr.entry (.pointer (some ⟨r, 0, none⟩))).run Try.prog w' = .ok (.tuple #[kval p.1, oval p.2]) w') →
      wpList Try.prog ops Q rest (a.put o.dst (.tuple #[.bool true, kval p.1, oval p.2])) w') : wpList Try.prog ops Q (o :: rest) a w := by
  obtain ⟨es, clock, D, since, seen, c0, hb, hh, hr, hold, hsc, hsk, hl⟩ := hI
  have hne : mb ≠ r := by
    rintro rfl
    rw [hb] at hr; cases hr
  rcases run_next_at (P := Try.prog) w o.type r mb since c0 seen es clock hr hb hold hsc with ⟨h0, hrun⟩ | ⟨e, he, w1, hw1, hrun⟩
  · refine wpList_val hg (v := .tuple #[.bool false]) ?_ (hDone ?_)
    · unfold execOp
      simp only [ho, hit, Sem.run_bind, hrun, Result.andThen_ok, Sem.run_pure]
    · rw [← hl]
      have : (leftOf es seen).toList = [] := List.eq_nil_of_length_eq_zero (by simpa using h0)
      rw [this]; rfl
  · have hem : e ∈ es.toList ∧ seen.contains e.born = false := mem_left he
    have hk := hh.enc e hem.1
    have hr1 : w1.heap[r]? = some (.mapIter (some mb) since seen c0) := by rcases hw1 with rfl | rfl <;> exact hr
    have hb1 : w1.heap[mb]? = some (.map es clock) := by rcases hw1 with rfl | rfl <;> exact hb
    have hrl : r < w1.heap.size := (Array.getElem?_eq_some_iff.1 hr1).1
    have hs1 : w1.heap.size = w.heap.size := by rcases hw1 with rfl | rfl <;> rfl
    have hr2 : (setBlock w1 r (.mapIter (some mb) since (seen.push e.born) clock)).heap[r]? = some (.mapIter (some mb) since (seen.push e.born) clock) := by simp [setBlock, hrl]
    have hb2 : (setBlock w1 r (.mapIter (some mb) since (seen.push e.born) clock)).heap[mb]? = some (.map es clock) := by
      simp only [setBlock]
      rw [Array.getElem?_setIfInBounds_ne (fun e => hne e.symm)]; exact hb1
    have hst := (stamped_iff es clock).1 hh.st
    refine wpList_val hg (v := .tuple #[.bool true, kval (D e).1, oval (D e).2]) (w' := setBlock w1 r (.mapIter (some mb) since (seen.push e.born) clock)) ?_ (hMore (D e) ((leftOf es (seen.push e.born)).toList.map D) _ ?_ ⟨es, clock, D, since, _, clock, hb2, hh, hr2, hold, hsk, hsk, rfl⟩ ?_ (Lib.hid (by simp [setBlock, hs1])) (Lib.hid ?_))
    · rw [← hk.1, ← hk.2]
      unfold execOp
      simp only [ho, hit, Sem.run_bind, hrun, Result.andThen_ok, Sem.run_pure]
    · rw [← hl, ← List.map_cons]
      refine List.Perm.map D ?_
      have h1 : (leftOf es seen).toList = es.toList.filter (fun x => !seen.contains x.born) := by simp [leftOf]
      have h2 : (leftOf es (seen.push e.born)).toList = (leftOf es seen).toList.filter (fun x => !(x.born == e.born)) := by
        rw [h1, List.filter_filter]
        simp only [leftOf, Array.toList_filter]
        refine List.filter_congr fun x hx => ?_
        rw [contains_push]
        cases seen.contains x.born <;> cases (x.born == e.born) <;> rfl
      rw [h2]
      have hnd : ((leftOf es seen).toList.map (·.born)).Nodup := by
        rw [h1]
        exact hst.2.1.sublist (List.filter_sublist.map _)
      generalize (leftOf es seen).toList = l at he hnd
      clear h1 h2 hrun
      induction l with
      | nil => cases he
      | cons x l ih =>
        obtain ⟨n1, n2⟩ := List.nodup_cons.1 hnd
        rcases List.mem_cons.1 he with rfl | he
        · rw [List.filter_cons, if_neg (by simp)]
          have : l.filter (fun x => !(x.born == e.born)) = l := List.filter_eq_self.2 fun x hx => by
            have hxe : x.born ≠ e.born := fun h => n1 (List.mem_map.2 ⟨x, hx, h⟩)
            simp [hxe]
          rw [this]
        · have hxe : x.born ≠ e.born := fun h => n1 (List.mem_map.2 ⟨e, he, h.symm⟩)
          rw [List.filter_cons, if_pos (by simp [hxe])]
          exact ((ih he n2).cons x).trans (List.Perm.swap e x _)
    · refine ⟨by rcases hw1 with rfl | rfl <;> rfl, by rcases hw1 with rfl | rfl <;> rfl, by rcases hw1 with rfl | rfl <;> rfl, by simp [setBlock, hs1], fun k hk' hkr => ?_⟩
      simp only [setBlock]
      rw [Array.getElem?_setIfInBounds_ne (fun e => hkr e.symm)]
      rcases hw1 with rfl | rfl <;> rfl
    · rw [← hk.1, ← hk.2]
      exact run_entry_at _ r mb since seen es clock e hr2 hb2 hem.1 hst.2.1
theorem exec_entry {ρ : Operand → Value} {it : Operand} {p v : Value} (ho : o.op = .entry it) (hit : ρ it = p) (h : (Instr.entry p).run Try.prog w = .ok v w) : (execOp ρ o).run Try.prog w = .ok (.value v) w := by
  unfold execOp
  simp only [ho, hit, Sem.run_bind, h, Result.andThen_ok, Sem.run_pure]
end

end Go.Proofs.Ytpbcpocheblbfaa
