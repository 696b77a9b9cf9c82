/- The document's Add: words and laws. -/
import Derived.Test.YtpbcpocheblbfaaVotZD
namespace Go.Proofs.Ytpbcpocheblbfaa
set_option linter.unusedVariables false
set_option linter.unusedSimpArgs false
open Go.RowKit Go.MapKept

def RAddPost (w : World) (rb N : Nat) (r : Int × List (Ent One)) (e : Ending) (w' : World) : Prop := e = .returned (.int .i64 r.1) ∧ RefB w' rb (N : Int) (ones r.2) ∧ Fr (fun k => k = rb) w w'
theorem built_one70 {n : Int} {v : Vt} {t : List UInt8} (hv : v.ok) (ht : t.length = 16) : Try.prog.built 70 [(0, .int .i64 n), (1, vval v), (2, tval t)] = some (acells ⟨n, v, t⟩).toArray := by
  refine built_of (z := acells zeroA) (n := 53) (places := [(0, 1), (1, 36), (37, 16)]) Try.underlying70 (by kernel_rfl) (by kernel_rfl) ?_
  have e1 := fill_one (place := ([(0, 1), (1, 36), (37, 16)].toArray[·]?)) (i := 0) (off := 0) (size := 1) (pre := []) (ys := [.int .i64 0]) (zs := vcells zeroV ++ bv zeroT) (xs := [.int .i64 n]) (rest := [(1, vval v), (2, tval t)]) rfl rfl rfl rfl (v := .int .i64 n) rfl
  have e2 := fill_one (place := ([(0, 1), (1, 36), (37, 16)].toArray[·]?)) (i := 1) (off := 1) (size := 36) (pre := [.int .i64 n]) (ys := vcells zeroV) (zs := bv zeroT) (xs := vcells v) (rest := [(2, tval t)]) rfl rfl (vcells_len hv) (by decide) (v := vval v) rfl
  have e3 := fill_one (place := ([(0, 1), (1, 36), (37, 16)].toArray[·]?)) (i := 2) (off := 37) (size := 16) (pre := [.int .i64 n] ++ vcells v) (ys := bv zeroT) (zs := []) (xs := bv t) (rest := []) rfl (by rw [List.length_append, vcells_len hv]; rfl) (by rw [bv_length, ht]) (by decide) (v := tval t) rfl
  simp only [List.nil_append, List.append_nil, List.append_assoc] at e1 e2 e3
  show Instr.fill _ ([Value.int .i64 0] ++ (vcells zeroV ++ bv zeroT)).toArray _ = _
  rw [e1, e2, e3]
  rfl
theorem exec_build3 {o : Oper} {w : World} {ρ : Operand → Value} (t : TypeId) (i0 i1 i2 : Nat) (x0 x1 x2 : Operand) (v0 v1 v2 : Value) (ho : o.op = .build t #[(i0, x0), (i1, x1), (i2, x2)]) (h0 : ρ x0 = v0) (h1 : ρ x1 = v1) (h2 : ρ x2 = v2) (cells : Array Value) (hf : Try.prog.built t [(i0, v0), (i1, v1), (i2, v2)] = some cells) : (execOp ρ o).run Try.prog w = .ok (.value (.agg cells)) w :=
  exec_build t _ ho cells (by simpa [h0, h1, h2] using hf)
theorem exec_lss_i {o : Oper} {w : World} {ρ : Operand → Value} {x y : Operand} {t' : TypeId} {a b : Int} {r : Bool} (h : decide (a < b) = r) (ho : o.op = .binOp .lss 3 x y t') (hx : ρ x = .int .i64 a) (hy : ρ y = .int .i64 b) : (execOp ρ o).run Try.prog w = .ok (.value (.bool r)) w := by
  unfold execOp
  simp only [ho, hx, hy]
  subst h
  simp [binOp, eqGuard, Op.intCmp]
theorem exec_geq_i {o : Oper} {w : World} {ρ : Operand → Value} {x y : Operand} {t' : TypeId} {a b : Int} {r : Bool} (h : decide (b ≤ a) = r) (ho : o.op = .binOp .geq 3 x y t') (hx : ρ x = .int .i64 a) (hy : ρ y = .int .i64 b) : (execOp ρ o).run Try.prog w = .ok (.value (.bool r)) w := by
  unfold execOp
  simp only [ho, hx, hy]
  subst h
  simp [binOp, eqGuard, Op.intCmp]
theorem exec_neq_i {o : Oper} {w : World} {ρ : Operand → Value} {x y : Operand} {t' : TypeId} {a b : Int} {r : Bool} (h : (a != b) = r) (ho : o.op = .binOp .neq 3 x y t') (hx : ρ x = .int .i64 a) (hy : ρ y = .int .i64 b) : (execOp ρ o).run Try.prog w = .ok (.value (.bool r)) w := by
  unfold execOp
  simp only [ho, hx, hy]
  subst h
  simp [binOp, eqGuard, Op.intCmp]
theorem size70 {a : VAct} (h : a.ok) : (Try.prog.info? 70).map (·.size) = some (acells a).length := by rw [acells_len h]; kernel_rfl
theorem load_one70 {o : Oper} {w : World} {ρ : Operand → Value} {x : Operand} {b off : Nat} {a : VAct} (ha : a.ok) (hc : w.rangeAt b off (acells a)) (ho : o.op = .load 70 x) (hx : ρ x = .pointer (some ⟨b, off, none⟩)) : (execOp ρ o).run Try.prog w = .ok (.value (.agg (acells a).toArray)) w :=
  exec_load _ x ho b off hx _ _ hc Try.underlying70 rfl (size70 ha)
theorem vr_one {w : World} {b : Nat} {s : VAct} {t : TypeId} (h : Blk w b (acells s).toArray t) : VR w (some ⟨b, 0, none⟩) [s] := fun i x hx => by
  cases i with
  | zero =>
    obtain rfl : s = x := by simpa using hx
    exact ⟨b, 0, rfl, by simpa using range_of_blk h⟩
  | succ i => simp at hx
theorem onok_one {s : VAct} (h : s.ok) : OnOk [s] := fun x hx => by
  obtain rfl := List.mem_singleton.1 hx
  exact h
theorem radd_end {w w9 : World} {rb N : Nat} {L' : List VAct} {x v9 : Value} (hbk : Blk w9 rb #[.int .i64 (N : Int), x] 68) (hrw : rb < w.heap.size) (hO : VO (rb + 1) w9 v9 L') (hok : OnOk L') (hs : L'.length ≤ 1000) (hb : Below w.heap.size w w9) :
    RefB (w9.setCell ⟨rb, 1, none⟩ v9) rb (N : Int) L' ∧ Fr (fun k => k = rb) w (w9.setCell ⟨rb, 1, none⟩ v9) := by
  have hf : Fr (fun k => k = rb) w9 (w9.setCell ⟨rb, 1, none⟩ v9) := Fr.setCell _ _ _ _ rfl
  refine ⟨⟨⟨v9, hbk.set 1 v9, hO.fr hf (fun k hk e => ?_)⟩, hok, hs⟩, (Fr.of_below hb).trans hf (fun k hk => .inl hk)⟩
  have := (hO.lt k hk).1
  omega
theorem VO.there {B : Nat} {w : World} {g c i n : Nat} {L : List VAct} (h : VO B w (.slice (some ⟨g, 0, none⟩) n c) L) (hn : n = L.length) (hi : i < n) : w.there g (i * 53) 53 := by
  subst hn
  rcases h.2 with ⟨e, _⟩ | ⟨g', cap, cur, e, hB, hh, hn, hcap, hsz, htk⟩
  · cases e
  · cases e
    have hh : Blk w g cur 70 := hh
    have : (i + 1) * 53 ≤ c * 53 := Nat.mul_le_mul_right _ (by omega)
    intro j hj
    refine ⟨?_, hh.free _⟩
    rw [hh.cell, Array.getElem?_eq_getElem (by omega)]
    simp
theorem radd_end2 {w w9 : World} {rb N g c k n : Nat} {L : List VAct} {s : VAct} (hbk : Blk w9 rb #[.int .i64 (N : Int), .slice (some ⟨g, 0, none⟩) n c] 68) (hn : n = L.length) (hO : VO (rb + 1) w9 (.slice (some ⟨g, 0, none⟩) n c) L) (hok : OnOk L) (hk : k < n) (hs : s.ok) (hok' : OnOk (L.set k s)) (hsm : (L.set k s).length ≤ 1000) (hf : Fr (fun k => k = rb) w w9) (hg : w.heap.size ≤ g) (hrw : rb < w.heap.size) :
    RefB (w9.setCells g (k * 53) (acells s)) rb (N : Int) (L.set k s) ∧ Fr (fun k => k = rb) w (w9.setCells g (k * 53) (acells s)) := by
  subst hn
  obtain ⟨h1, h2⟩ := setCells_fr g (acells s) (k * 53) w9
  refine ⟨⟨⟨_, hbk.fr h1 (by omega), hO.set hok hk hs⟩, hok', hsm⟩, hf.trans h1 (fun i hi => .inr (by omega))⟩
theorem radd_mid1 {w2 w3 w4 : World} {xb : Nat} {cs : Array Value} {t : TypeId} (HXB : Hid (w2.heap.size = xb)) (HS3 : Hid (w3.heap.size = xb + 1)) (HS4 : Hid (w4.heap.size = w3.heap.size)) (hbl : Below w2.heap.size w2 w3) (hb4 : Blk w4 xb cs t) (hf4 : Fr (fun k => k = xb) w3 w4) :
    Below w2.heap.size w2 w4 ∧ Blk w4 xb cs t ∧ (w2.heap.size ≤ xb ∧ xb < w4.heap.size) ∧ True := by
  have h1 := HXB.out
  have h2 := HS3.out
  have h3 := HS4.out
  exact ⟨below_fr hbl hf4 (by omega), hb4, ⟨by omega, by omega⟩, trivial⟩
theorem radd_mid2 {w2 w7 w8 : World} {B gb n : Nat} {L : List VAct} {v8 : Value} (hn : n = L.length) (h0 : 0 < n) (hO8 : VO B w8 v8 ([] ++ L)) (hg8 : w7.grownBy w8 (Value.slice (some ⟨gb, 0, none⟩) 0 0).ownBlock) (ha8 : v8.ownBlock = (Value.slice (some ⟨gb, 0, none⟩) 0 0).ownBlock ∨ v8.ownBlock = some w7.heap.size) (hgb : w2.heap.size ≤ gb) (B7 : Below w2.heap.size w2 w7) :
    ∃ g c8, v8 = .slice (some ⟨g, 0, none⟩) n c8 ∧ w2.heap.size ≤ g ∧ Below w2.heap.size w2 w8 ∧ Fr (fun k => k = gb) w7 w8 := by
  have hf8 : Fr (fun k => k = gb) w7 w8 := Fr.grown hg8 (fun k hk => by cases hk; rfl)
  have h8 : ∀ k, v8.ownBlock = some k → w2.heap.size ≤ k := fun k hk => by
    rcases ha8 with e | e
    · rw [e] at hk; cases hk; exact hgb
    · rw [e] at hk; cases hk; exact B7.size
  rcases hO8.2 with ⟨_, h0⟩ | ⟨g, cap, cur, e, _⟩
  · rw [List.nil_append, ← hn] at h0; omega
  · rw [List.nil_append, ← hn] at e
    subst e
    exact ⟨g, cap, rfl, h8 g rfl, below_fr B7 hf8 hgb, hf8⟩
section
variable {ops : Array Oper} {rest : List Oper} {o : Oper} {a : Act} {w : World} {Q : Exit → Act → World → Prop}
theorem wpList_bslice0 (hg : o.guard = none) (ho : o.op = .buildSlice 66 0 #[]) (B : Nat) (hB : B ≤ w.heap.size)
    (h : ∀ b w', VO B w' (.slice (some ⟨b, 0, none⟩) 0 0) [] → Hid (w.heap.size = b) → Below w.heap.size w w' → Hid (w'.heap.size = b + 1) → wpList Try.prog ops Q rest (a.put o.dst (.slice (some ⟨b, 0, none⟩) 0 0)) w') : wpList Try.prog ops Q (o :: rest) a w :=
  wpList_plain hg fun K hK => wp_bslice0 ho B hB fun b w' h1 h2 h3 h4 => hK _ _ (h b w' h1 h2 h3 h4)
theorem wpList_append_ones (hg : o.guard = none) (s x : Operand) (ho : o.op = .call { callee := .builtin .append, args := #[s, x], argTypes := #[66, 66] })
    (B : Nat) (v : Value) (L : List VAct) (hs : a.eval s = v) (hO : VO B w v L) (hB : B ≤ w.heap.size) (A : Option Addr) (m c : Nat) (hx : a.eval x = .slice A m c) (L2 : List VAct) (hm : m = L2.length) (hok : OnOk L2) (hr : VR w A L2) (hl : L.length + L2.length ≤ 100000)
    (h : ∀ v' w', VO B w' v' (L ++ L2) → w.grownBy w' v.ownBlock → (v'.ownBlock = v.ownBlock ∨ v'.ownBlock = some w.heap.size) → wpList Try.prog ops Q rest (a.put o.dst v') w') : wpList Try.prog ops Q (o :: rest) a w :=
  wpList_plain hg fun K hK => wp_append_ones s x ho B v L hs hO hB A m c hx L2 hm hok hr hl fun v' w' h1 h2 h3 => hK _ _ (h v' w' h1 h2 h3)
end
theorem vote_eqlB {o : Oper} {ρ : Operand → Value} {x y : Operand} {t' : TypeId} {u v : Vt} {r : Bool} (w : World) (hd : decide (u = v) = r) (hu : u.ok) (hv : v.ok) (ho : o.op = .binOp .eql 30 x y t') (hx : ρ x = vval u) (hy : ρ y = vval v) :
    (execOp ρ o).run Try.prog w = .ok (.value (.bool r)) w := by rw [← hd]; exact vote_eql w hu hv ho hx hy
theorem isAt_old {M : List (Ent One)} {N : Nat} (hi : Inv N M) {k : Nat} {a : VAct} {kind node : Int} (ha : (ones M)[k]? = some a) (h : isAt kind node a = true) : ∃ y, M[k]? = some ((kind, node), y) := by
  unfold ones at ha
  rw [List.getElem?_map] at ha
  obtain ⟨p, hp, rfl⟩ := Option.map_eq_some_iff.1 ha
  have := (hi.each p (List.mem_of_getElem? hp)).1
  unfold isAt at h
  simp only [Bool.and_eq_true, decide_eq_true_eq] at h
  obtain ⟨⟨k1, k2⟩, y⟩ := p
  simp only at this h
  exact ⟨y, by rw [hp, this, h.1, h.2]⟩
theorem find_isAt {R : List VAct} {kind node : Int} {a : VAct} (h : R.find? (isAt kind node) = some a) : isAt kind node a = true := List.find?_some h

end Go.Proofs.Ytpbcpocheblbfaa
