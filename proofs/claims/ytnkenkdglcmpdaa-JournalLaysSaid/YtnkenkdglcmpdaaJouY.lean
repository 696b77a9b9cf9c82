/- A journal whose tape fails: plain Lean; the walk of begins; rows of truth values. -/
import Derived.Test.YtnkenkdglcmpdaaJouX
namespace Go.Proofs.Ytnkenkdglcmpdaa
set_option linter.unusedVariables false
set_option linter.unusedSimpArgs false
open Go.RowKit

/-- What a tape keeps of the records R, whatever befalls it: at least the first ones, so many. -/
structure Kept (T : TS) (R : List (List UInt8)) (q : Nat) : Prop where
  pre : T.b0 <+: encs (runF R)
  sure : (encs (runF (R.take q))).length ≤ T.s0
  le : q ≤ R.length
  s0 : T.s0 ≤ T.b0.length
  b1 : T.b1 = []
  room : T.room = 1048576
structure Alive (T : TS) (J : JS) (R : List (List UInt8)) (k : Nat) : Prop where
  off : T.off = false
  fails : T.fails = J.fails
  area : J.area = 0
  b0 : T.b0 = encs (runF (R.take k))
def Dead (T : TS) : Prop := T.off = true ∧ T.plan = none
theorem Kept.gone {T : TS} {R : List (List UInt8)} {s : Nat} (h : Kept T R s) (k : Int) : Kept (T.gone k) R s ∧ Dead (T.gone k) := by
  obtain ⟨h1, h2⟩ := keepN_le T.b0 T.s0 k h.s0
  refine ⟨⟨(List.take_prefix _ _).trans h.pre, Nat.le_trans h.sure h1, h.le, ?_, ?_, h.room⟩, rfl, rfl⟩
  · show keepN T.b0 T.s0 k ≤ (T.b0.take (keepN T.b0 T.s0 k)).length
    rw [List.length_take]; omega
  · show T.b1.take _ = []
    rw [h.b1]; simp
theorem runF_take (R : List (List UInt8)) (k : Nat) : runF (R.take k) = (runF R).take (k + 1) := by simp [runF, dat, List.map_take]
theorem encs_take_pre (l : List (UInt8 × List UInt8)) (k : Nat) : encs (l.take k) <+: encs l := ⟨encs (l.drop k), by rw [← encs_append, List.take_append_drop]⟩
theorem Alive.fault {T : TS} {J : JS} {R : List (List UInt8)} {k : Nat} (h : Alive T J R k) : J.fault T = 0 := by unfold JS.fault; rw [if_pos ⟨h.off, h.fails⟩]
theorem Dead.fault {T : TS} {J : JS} (h : Dead T) : J.fault T = 150 := by unfold JS.fault; rw [if_neg (by rw [h.1]; simp)]
/-- A record is appended: it is there, or power is gone. -/
theorem Alive.append {T : TS} {J : JS} {R : List (List UInt8)} {k s : Nat} (h : Alive T J R k) (hk : Kept T R s) (l : List UInt8) (hl : R[k]? = some l) (hs : ∀ x ∈ R, x.length ≤ 8000) (ht : 20 * R.length + total R ≤ 8000) :
    ((J.append T l).1 = 0 ∧ Alive (J.append T l).2.1 (J.append T l).2.2 R (k + 1) ∧ Kept (J.append T l).2.1 R s) ∨ ((J.append T l).1 = 150 ∧ Dead (J.append T l).2.1 ∧ Kept (J.append T l).2.1 R s) := by
  have hts := take_snoc R k l hl
  have h4 : ∀ x ∈ R, x.length ≤ 4194304 := fun x hx => by have := hs x hx; omega
  have h1 := runF_len (R.take k) (fun x hx => h4 x (List.mem_of_mem_take hx))
  have h2 := total_take R (k + 1)
  rw [hts, total_snoc, List.length_append, List.length_singleton] at h2
  have hll := hs l (List.mem_of_getElem? hl)
  have hn := nbytes_small (n := l.length) (by omega)
  have hfl := frameB_len 68 l
  have hu : T.used = T.b0.length := by unfold TS.used; rw [hk.b1]; rfl
  have e : T.append 0 (frameB 68 l) = T.op fun T => T.app 0 (frameB 68 l) := by
    unfold TS.append
    rw [h.off, if_neg (by rw [faultN_ok (.inl rfl)]; simp), if_neg (by rw [hu, h.b0, hk.room]; omega)]
  have hb : T.b0 ++ frameB 68 l = encs (runF (R.take (k + 1))) := by rw [h.b0, hts, runF_snoc, encs_append, encs_one]
  have ea : J.append T l = if (T.append 0 (frameB 68 l)).1 = 0 then (0, (T.append 0 (frameB 68 l)).2, { J with bytes := wrap64 (J.bytes + ((frameB 68 l).length : Int)) }) else ((T.append 0 (frameB 68 l)).1, (T.append 0 (frameB 68 l)).2, J) := by
    unfold JS.append
    rw [h.fault, if_neg (by simp), if_neg (by omega), h.area]
  have fine : ∀ x : Int × TS, x = (0, T.step.app 0 (frameB 68 l)) → T.append 0 (frameB 68 l) = x →
      (J.append T l).1 = 0 ∧ Alive (J.append T l).2.1 (J.append T l).2.2 R (k + 1) ∧ Kept (J.append T l).2.1 R s := fun x hx hax => by
    rw [ea, hax, hx, if_pos rfl]
    refine ⟨rfl, ⟨h.off, h.fails, h.area, hb⟩, ⟨?_, hk.sure, hk.le, ?_, hk.b1, hk.room⟩⟩
    · show T.b0 ++ frameB 68 l <+: encs (runF R)
      rw [hb, runF_take]; exact encs_take_pre _ _
    · show T.s0 ≤ (T.b0 ++ frameB 68 l).length
      rw [List.length_append]; have := hk.s0; omega
  match hp : T.plan with
  | none =>
    refine .inl (fine _ rfl ?_)
    rw [e, op_none hp]
  | some (n, q) =>
    by_cases hn0 : n = 0
    · have e2 : T.append 0 (frameB 68 l) = (150, T.gone q) := by
        rw [e]; unfold TS.op; rw [hp]; simp only; rw [if_pos hn0]
      rw [ea, e2, if_neg (by simp)]
      exact .inr ⟨rfl, (hk.gone q).2, (hk.gone q).1⟩
    · refine .inl (fine _ rfl ?_)
      rw [e]; unfold TS.op; rw [hp]; simp only; rw [if_neg hn0]
theorem Dead.append {T : TS} {J : JS} {l : List UInt8} (h : Dead T) : J.append T l = (150, T, J) := by
  unfold JS.append; rw [h.fault, if_pos (by simp)]
theorem Dead.sync {T : TS} {J : JS} (h : Dead T) : J.sync T = (150, T, J) := by
  unfold JS.sync; rw [h.fault, if_pos (by simp)]
/-- Records are synced: they are sure, or power is gone. -/
theorem Alive.sync {T : TS} {J : JS} {R : List (List UInt8)} {k s : Nat} (h : Alive T J R k) (hk : Kept T R s) (hkl : k ≤ R.length) :
    ((J.sync T).1 = 0 ∧ Alive (J.sync T).2.1 (J.sync T).2.2 R k ∧ Kept (J.sync T).2.1 R k) ∨ ((J.sync T).1 = 150 ∧ Dead (J.sync T).2.1 ∧ Kept (J.sync T).2.1 R s) := by
  have e : T.sync 0 = T.op fun T => T.syn 0 := by
    unfold TS.sync
    rw [h.off, if_neg (by rw [faultN_ok (.inl rfl)]; simp)]
  have ea : J.sync T = ((T.sync 0).1, (T.sync 0).2, J) := by
    unfold JS.sync
    rw [h.fault, if_neg (by simp), h.area]
  have fine : T.sync 0 = (0, T.step.syn 0) → (J.sync T).1 = 0 ∧ Alive (J.sync T).2.1 (J.sync T).2.2 R k ∧ Kept (J.sync T).2.1 R k := fun hx => by
    rw [ea, hx]
    refine ⟨rfl, ⟨h.off, h.fails, h.area, h.b0⟩, ⟨hk.pre, ?_, hkl, ?_, hk.b1, hk.room⟩⟩
    · show _ ≤ T.b0.length
      rw [h.b0]; exact Nat.le_refl _
    · exact Nat.le_refl _
  match hp : T.plan with
  | none =>
    refine .inl (fine ?_)
    rw [e, op_none hp]
  | some (n, q) =>
    by_cases hn0 : n = 0
    · have e2 : T.sync 0 = (150, T.gone q) := by
        rw [e]; unfold TS.op; rw [hp]; simp only; rw [if_pos hn0]
      rw [ea, e2]
      exact .inr ⟨rfl, (hk.gone q).2, (hk.gone q).1⟩
    · refine .inl (fine ?_)
      rw [e]; unfold TS.op; rw [hp]; simp only; rw [if_neg hn0]
/-- Power fails, and comes again. -/
theorem Kept.fail {T : TS} {R : List (List UInt8)} {s : Nat} (h : Kept T R s) (hd : T.off = true → T.plan = none) (k : Int) : Kept { (T.fail k).2 with off := false } R s ∧ (T.fail k).2.plan = none := by
  unfold TS.fail
  by_cases ho : T.off = true
  · rw [if_pos ho]
    exact ⟨⟨h.pre, h.sure, h.le, h.s0, h.b1, h.room⟩, hd ho⟩
  · rw [if_neg ho]
    obtain ⟨g1, g2⟩ := h.gone k
    exact ⟨⟨g1.pre, g1.sure, g1.le, g1.s0, g1.b1, g1.room⟩, g2.2⟩
/-- What Open finds on a tape that kept them. -/
theorem Kept.again {T : TS} {R : List (List UInt8)} {s : Nat} (h : Kept T R s) (ho : T.off = false) (hp : T.plan = none) (hs : ∀ x ∈ R, x.length ≤ 8000) (ht : 20 * R.length + total R ≤ 8000) :
    ∃ i, s ≤ i ∧ i ≤ R.length ∧ Again T 0 1 (R.take i) := by
  have h4 : ∀ x ∈ R, x.length ≤ 4194304 := fun x hx => by have := hs x hx; omega
  obtain ⟨n, hn⟩ : ∃ n, n = T.b0.length := ⟨_, rfl⟩
  have hb : T.b0 = (encs (runF R)).take n := by rw [hn]; exact List.prefix_iff_eq_take.1 h.pre
  obtain ⟨i, h1, h2, h3, h5⟩ := frames_take (runF R) n (runF_ok h4)
  have hsn : (encs ((runF R).take (s + 1))).length ≤ n := by rw [← runF_take]; have := h.sure; have := h.s0; omega
  have hRl : (runF R).length = R.length + 1 := by simp [runF, dat]
  have hi : s + 1 ≤ i := by
    rcases Nat.lt_or_ge i (s + 1) with hlt | hge
    · exfalso
      have hle := h.le
      have h6 := h5 (by omega)
      have h7 : (encs ((runF R).take (i + 1))).length ≤ (encs ((runF R).take (s + 1))).length := by
        have := encs_take_pre ((runF R).take (s + 1)) (i + 1)
        rw [List.take_take, Nat.min_eq_left (by omega)] at this
        exact this.length_le
      omega
    · exact hge
  obtain ⟨q, rfl⟩ : ∃ q, i = q + 1 := ⟨i - 1, by omega⟩
  have hf : framesP (T.b 0) = runF (R.take q) := by
    show framesP T.b0 = _
    rw [hb, h2, runF_take]
  have hsq : ∀ x ∈ R.take q, x.length ≤ 8000 := fun x hx => hs x (List.mem_of_mem_take hx)
  have htq := total_take R q
  have hlen := runF_len R h4
  have hle2 := h.pre.length_le
  have e1 := encs_len (R.take q) (fun x hx => by have := hsq x hx; omega)
  have e2 := turnframe_len (1 + 1) (by omega)
  refine ⟨q, by omega, by omega, ⟨.inl rfl, ho, hp, by omega, by omega, by rw [hf, runF_turn]; rfl, by rw [hf, runF_recs], ?_, fun x hx => by have := hsq x hx; omega, ?_, by rw [h.room]; omega⟩, h.room, ?_⟩
  · show turnOf (framesP T.b1) < _
    rw [h.b1]; decide
  · show ((T.b0.length : Int) + _ ≤ _)
    rw [laid_len _ _ (by omega), h.room]; omega
  · show T.b0.length ≤ 9000
    omega
theorem n1_kept (R : List (List UInt8)) : Kept n1.2.1 R 0 ∧ Alive n1.2.1 n1.2.2 R 0 := by
  have h := n1_run
  have hb : n1.2.1.b0 = encs (runF []) := h.b0
  refine ⟨⟨?_, ?_, Nat.zero_le _, ?_, h.b1, h.room⟩, ⟨h.off, h.fails, h.area, by rw [hb]; rfl⟩⟩
  · rw [hb]
    have := encs_take_pre (runF R) 1
    have e : (runF R).take 1 = runF [] := rfl
    rwa [e] at this
  · rw [n1_sure.1]; exact Nat.le_refl _
  · rw [n1_sure.1, hb]; exact Nat.le_refl _
theorem Kept.armed {T : TS} {R : List (List UInt8)} {s : Nat} (h : Kept T R s) (p : Option (Int × Int)) : Kept { T with plan := p } R s := ⟨h.pre, h.sure, h.le, h.s0, h.b1, h.room⟩
theorem Alive.armed {T : TS} {J : JS} {R : List (List UInt8)} {k : Nat} (h : Alive T J R k) (p : Option (Int × Int)) : Alive { T with plan := p } J R k := ⟨h.off, h.fails, h.area, h.b0⟩
theorem arm_fine {T : TS} (h : T.off = false) (m : Nat) (keep : Int) : T.arm (m : Int) keep = (0, { T with plan := some ((m : Int), keep) }) := by
  unfold TS.arm
  rw [if_neg (by omega)]
  simp [h]
/-! ### Open, once more -/
structure OwnT (B : Nat) (w : World) (tb : Nat) (T : TS) (F : Nat → Prop) : Prop where
  tape : TapeR w tb T F
  from_ : ∀ k, F k → B ≤ k
  size : B ≤ w.heap.size
theorem OwnT.upd {B : Nat} {w w' : World} {tb : Nat} {T T' : TS} {F F' : Nat → Prop} (h : OwnT B w tb T F) (ht : TapeR w' tb T' F') (hu : Upd w w' F F') : OwnT B w' tb T' F' ∧ Below B w w' :=
  ⟨⟨ht, (upd_below hu h.size h.from_).2, Nat.le_trans h.size hu.fr.size⟩, (upd_below hu h.size h.from_).1⟩
theorem OwnT.below {B : Nat} {w w' : World} {tb : Nat} {T : TS} {F : Nat → Prop} (h : OwnT B w tb T F) (hb : Below w.heap.size w w') : OwnT B w' tb T F := ⟨h.tape.below hb, h.from_, Nat.le_trans h.size hb.size⟩
theorem JN.own {B : Nat} {w : World} {jb tb : Nat} {J : JS} {T : TS} {F : Nat → Prop} (h : JN B w jb tb J T F) : OwnT B w tb T F := ⟨h.jr.tape, fun k hk => h.from_ k (.inl hk), h.size⟩
/-- A tape that has records is opened. -/
theorem open_again {B : Nat} {w : World} {tb : Nat} {T : TS} {F : Nat → Prop} {a : Int} {t : Nat} {ls : List (List UInt8)} (h : OwnT B w tb T F) (hA : Again T a t ls) (ht : t ≤ 1000) (hs : ∀ x ∈ ls, x.length ≤ 8000) (hl : 20 * ls.length + total ls ≤ 8000) :
    Calls Try.prog 42 #[.pointer (some ⟨tb, 0, none⟩)] w fun e w' => ∃ F' jb A c T' J', e = .returned (.tuple #[.pointer (some ⟨jb, 0, none⟩), .slice A ls.length c, .int .i64 0]) ∧ JN B w' jb tb J' T' F' ∧ Again T' (1 - a) (t + 1) ls ∧ RLs w' (FJ F' jb) A ls ∧ Upd w w' F (FJ F' jb) ∧ Below B w w' := by
  obtain ⟨o1, o2, o3, o4, o5, o6, o7, o8⟩ := hA.next ht hs hl
  refine (jopen_any h.tape).mono ?_
  rintro e w' ⟨F', hp⟩
  rw [if_pos o1, o3] at hp
  obtain ⟨jb, A, c, h1, h2, _, h3, h4⟩ := hp
  have hb := upd_below h4 h.size h.from_
  exact ⟨F', jb, A, c, _, _, h1, ⟨h2, hb.2, Nat.le_trans h.size h4.fr.size⟩, o4, h3, h4, hb.1⟩
/-! ### begins -/
theorem RLs.take {w : World} {X : Nat → Prop} {A : Option Addr} {ls : List (List UInt8)} (h : RLs w X A ls) (n : Nat) : RLs w X A (ls.take n) := fun j l hj => by
  rw [List.getElem?_take] at hj
  split at hj
  · exact h j l hj
  · cases hj
set_option maxHeartbeats 1000000 in
theorem begins_any (A B : Option Addr) (c d : Nat) (ls ms : List (List UInt8)) (X Y : Nat → Prop) (w : World) (h1 : RLs w X A ls) (h2 : RLs w Y B ms) (hl : ms.length ≤ 2000000000) (hd : ms.length ≤ d) :
    Calls Try.prog 55 #[.slice A ls.length c, .slice B ms.length d] w fun e w' => e = .returned (.bool (decide (ls.length ≤ ms.length ∧ ls = ms.take ls.length))) ∧ Below w.heap.size w w' := by
  obtain ⟨r, hr⟩ : ∃ r, r = decide (ls.length ≤ ms.length ∧ ls = ms.take ls.length) := ⟨_, rfl⟩
  rw [← hr]
  by_cases hle : ls.length ≤ ms.length
  · have hcall := same16_any A B c d ls (ms.take ls.length) X Y w h1 (h2.take ls.length) (by omega)
    have hrr : r = decide (ls = ms.take ls.length) := by rw [hr]; simp [hle]
    rw [← hrr, List.length_take, Nat.min_eq_left hle] at hcall
    obtain ⟨N, hN⟩ : ∃ N, N = ls.length := ⟨_, rfl⟩
    obtain ⟨M, hM⟩ : ∃ M, M = ms.length := ⟨_, rfl⟩
    rw [← hN] at hcall
    rw [← hN, ← hM] at hle ⊢
    rw [← hM] at hd hl
    have HC := Lib.hid hcall
    clear hcall hr hrr hN hM h1 h2
    go_enter Try.func55, Try.ntmps55
    go_wp2_with fail
    refine HC.out.mono ?_
    rintro e w' ⟨rfl, hb⟩
    go_wp2_with fail
    go_ret
    exact ⟨rfl, hb⟩
  · have hrr : r = false := by rw [hr]; simp [hle]
    obtain ⟨N, hN⟩ : ∃ N, N = ls.length := ⟨_, rfl⟩
    obtain ⟨M, hM⟩ : ∃ M, M = ms.length := ⟨_, rfl⟩
    rw [← hN, ← hM] at hle ⊢
    subst hrr
    clear hr hN hM h1 h2
    go_enter Try.func55, Try.ntmps55
    go_wp2_with fail
    go_ret
    exact ⟨rfl, Below.refl _ _⟩
/-! ### A row of truth values -/
def BoolsR (w : World) (A : Option Addr) (n : Nat) : Prop := ∀ i, i < n → ∃ b off x, A = some ⟨b, off, none⟩ ∧ b < w.heap.size ∧ w.cell? ⟨b, off + i, none⟩ = some (.bool x)
theorem BoolsR.below {B : Nat} {w w' : World} {A : Option Addr} {n : Nat} (h : BoolsR w A n) (hb : Below B w w') (hB : w.heap.size ≤ B) : BoolsR w' A n := fun i hi => by
  obtain ⟨b, off, x, h1, h2, h3⟩ := h i hi
  exact ⟨b, off, x, h1, Nat.lt_of_lt_of_le h2 hb.size, (hb.cell (p := ⟨b, off + i, none⟩) (by show b < B; omega)).trans h3⟩
theorem open_bools {H : Type} {enc : TypeId × Value → H} {w : World} {base : Nat} {held : Bool} {fuel : Nat} {v : Value} {x : DataW H × List MemPlace}
    (h : DataW.trod enc Try.prog w base (fun _ => true) held fuel 84 [v] = some x) : ∃ A n c, v = .slice A n c ∧ n ≤ c ∧ c ≤ maxLen ∧ BoolsR w A n := by
  obtain ⟨A, len, cap, hv, hl, hm, _, hr⟩ := open_rows Try.underlying84 (by decide +kernel) h
  have hC : Try.prog.cellsOf 4 = 1 := by kernel_rfl
  rw [hC] at hr
  simp only [List.cons.injEq, and_true] at hv
  refine ⟨A, len, cap, hv, hl, hm, fun i hi => ?_⟩
  obtain ⟨b, off, cs', n, y, h1, h2, h5, h3, h4⟩ := hr i hi
  match cs', h5 with
  | [v0], _ =>
    obtain ⟨q, h6, _⟩ := DataW.trod_bool Try.underlying4 h4
    simp only [List.cons.injEq, and_true] at h6
    subst h6
    have := h3 0 (by omega)
    simp only [Nat.mul_one, Nat.add_zero] at this
    exact ⟨b, off, q, h1, h2, this⟩

end Go.Proofs.Ytnkenkdglcmpdaa
