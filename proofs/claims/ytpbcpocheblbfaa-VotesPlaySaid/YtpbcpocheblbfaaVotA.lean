/- A map from keys of two numbers: its words, and the laws of its operations, over any elements. -/
import Derived.Test.YtpbcpocheblbfaaRegC
import Derived.Test.YtpbcpocheblbfaaHeap
import Derived.Maps.RangeRun
import Derived.Maps.Keyed
import Derived.DeepKeys4
namespace Go.Proofs.Ytpbcpocheblbfaa
set_option linter.unusedVariables false
set_option linter.unusedSimpArgs false
open Go.RowKit Go.MapKept
open Go.ChangeMaps (setBlock)

theorem laidOutV : laidOutB Try.prog = true := by kernel_rfl
theorem rowKey : (60 : TypeId) < Try.prog.types.size := of_decide_eq_true (by kernel_rfl)
theorem wideKey : (match Try.prog.underlying 60 with | some (.array _ _) | some (.struct _) => true | _ => false) = true := by kernel_rfl
theorem vkey : Maps.Keyed Try.prog 60 := Maps.Keyed.of_law (deep_law_laid laidOutV (m := 2) (by omega) rowKey (by kernel_rfl) wideKey)
theorem cellsKey : Try.prog.cellsOf 60 = 2 := by kernel_rfl
theorem cellsInt : Try.prog.cellsOf 3 = 1 := by kernel_rfl
theorem keyTypeKey : Try.prog.keyType 60 = true := by kernel_rfl
def I64 (n : Int) : Prop := (Lit.int .i64 n).wf = true
theorem i64_of {n : Int} (h0 : -9223372036854775808 ≤ n) (h1 : n ≤ 9223372036854775807) : I64 n := by
  unfold I64
  simp [Lit.wf, IntKind.min, IntKind.max, IntKind.signed, IntKind.bits]
  omega
def kval (k : Int × Int) : Value := .agg #[.int .i64 k.1, .int .i64 k.2]
theorem kval_inj {k k' : Int × Int} (h : kval k = kval k') : k = k' := by
  simp [kval] at h
  exact Prod.ext h.1 h.2
theorem key_some {k : Int × Int} (h1 : I64 k.1) (h2 : I64 k.2) : ∃ l, keyOf Try.prog 60 (kval k) = some l := by
  obtain ⟨d, hd⟩ : ∃ d, Try.prog.types.size + 1 = d + 1 + 1 := ⟨Try.prog.types.size - 1, by kernel_rfl⟩
  unfold I64 at h1 h2
  have e2 : ∃ ls, Try.prog.keyLits (d + 1 + 1) 60 [.int .i64 k.1, .int .i64 k.2] = some ls := by
    simp only [Program.keyLits, Try.underlying60, cellsKey, List.length_cons, List.length_nil]
    simp [cellsInt]
    rw [if_pos h1, if_pos h2]
    exact ⟨_, rfl⟩
  obtain ⟨ls, e2⟩ := e2
  unfold keyOf
  rw [Try.underlying60, hd]
  simp only [kval, Value.formed, keyTypeKey, Try.underlying60, cellsKey, Value.cells]
  rw [if_pos (by rfl)]
  exact ⟨_, by rw [e2]; rfl⟩

section
variable {X : Type} (ov : X → Value)
abbrev Ent (X : Type) := (Int × Int) × X
/-- The entries es hold the list M, in that order; D tells which entry holds what. -/
structure Holds (es : Array MapEntry) (clock : Nat) (D : MapEntry → Ent X) (M : List (Ent X)) : Prop where
  st : Stamped es clock
  list : es.toList.map D = M
  enc : ∀ e ∈ es.toList, e.key = kval (D e).1 ∧ e.val = ov (D e).2
  keys : ∀ p ∈ M, I64 p.1.1 ∧ I64 p.1.2
/-- Block mb is a map that holds M. -/
def MapV (w : World) (mb : Nat) (M : List (Ent X)) : Prop := ∃ es clock D, w.heap[mb]? = some (.map es clock) ∧ Holds ov es clock D M
def lookM (M : List (Ent X)) (k : Int × Int) : Option X := (M.find? (fun p => p.1 == k)).map (·.2)
def hasM (M : List (Ent X)) (k : Int × Int) : Bool := M.any (fun p => p.1 == k)
def putM (M : List (Ent X)) (k : Int × Int) (x : X) : List (Ent X) := if hasM M k then M.map (fun p => if p.1 == k then (k, x) else p) else M ++ [(k, x)]
variable {ov} {w w' : World} {mb : Nat} {M : List (Ent X)} {k : Int × Int}
theorem MapV.lt (h : MapV ov w mb M) : mb < w.heap.size := by
  obtain ⟨es, clock, D, hb, _⟩ := h
  exact (Array.getElem?_eq_some_iff.1 hb).1
theorem MapV.fr {F : Nat → Prop} (h : MapV ov w mb M) (hf : Fr F w w') (hn : ¬ F mb) : MapV ov w' mb M := by
  have hl := h.lt
  obtain ⟨es, clock, D, hb, hh⟩ := h
  exact ⟨es, clock, D, (hf.block mb hl hn).trans hb, hh⟩
theorem MapV.below (h : MapV ov w mb M) (hb : Below w.heap.size w w') : MapV ov w' mb M := h.fr (Fr.of_below (F := fun _ => False) hb) (fun h => h)
theorem Holds.ekeys {es : Array MapEntry} {clock : Nat} {D : MapEntry → Ent X} (h : Holds ov es clock D M) : ∀ e ∈ es.toList, ∃ l, keyOf Try.prog 60 e.key = some l := fun e he => by
  rw [(h.enc e he).1]
  have hk := h.keys (D e) (by rw [← h.list]; exact List.mem_map.2 ⟨e, he, rfl⟩)
  exact key_some hk.1 hk.2
theorem Holds.apart {es : Array MapEntry} {clock : Nat} {D : MapEntry → Ent X} (h : Holds ov es clock D M) : M.Pairwise (fun p q => p.1 ≠ q.1) := by
  rw [← h.list, List.pairwise_map]
  have hp := ((stamped_iff es clock).1 h.st).2.2
  refine List.Pairwise.imp_of_mem ?_ hp
  intro a b ha hb hab e
  apply hab
  rw [(h.enc a ha).1, (h.enc b hb).1, e]
theorem MapV.apart (h : MapV ov w mb M) : M.Pairwise (fun p q => p.1 ≠ q.1) := by
  obtain ⟨_, _, _, _, hh⟩ := h
  exact hh.apart
theorem MapV.keys (h : MapV ov w mb M) : ∀ p ∈ M, I64 p.1.1 ∧ I64 p.1.2 := by
  obtain ⟨_, _, _, _, hh⟩ := h
  exact hh.keys
theorem look_none (h : ∀ p ∈ M, p.1 ≠ k) : lookM M k = none ∧ hasM M k = false := by
  constructor
  · unfold lookM
    rw [List.find?_eq_none.2 (fun p hp => by simpa using h p hp)]
    rfl
  · unfold hasM
    rw [List.any_eq_false]
    intro p hp
    simpa using h p hp
theorem look_some {x : X} (ha : M.Pairwise (fun p q => p.1 ≠ q.1)) (h : (k, x) ∈ M) : lookM M k = some x ∧ hasM M k = true := by
  constructor
  · unfold lookM
    induction M with
    | nil => cases h
    | cons p M ih =>
      rw [List.find?_cons]
      by_cases hp : p.1 = k
      · rw [show (p.1 == k) = true by simp [hp]]
        simp only [Option.map_some, Option.some.injEq]
        rcases List.mem_cons.1 h with h | h
        · rw [← h]
        · exact absurd hp ((List.pairwise_cons.1 ha).1 _ h)
      · rw [show (p.1 == k) = false by simp [hp]]
        rcases List.mem_cons.1 h with h | h
        · rw [← h] at hp; exact absurd rfl hp
        · exact ih (List.pairwise_cons.1 ha).2 h
  · unfold hasM
    rw [List.any_eq_true]
    exact ⟨_, h, by simp⟩
/-- 'v, ok := m[k]'. -/
theorem run_look {t e : TypeId} (ht : Try.prog.underlying t = some (.map 60 e)) {z : Value} (hz : ∀ w, (zeroValue e).run Try.prog w = .ok z w) (h : MapV ov w mb M) (h1 : I64 k.1) (h2 : I64 k.2) :
    (Instr.lookup t (.map (some mb)) (kval k) true).run Try.prog w = .ok (.tuple #[((lookM M k).map ov).getD z, .bool (lookM M k).isSome]) w := by
  obtain ⟨es, clock, D, hb, hh⟩ := h
  obtain ⟨l, hkey⟩ := key_some h1 h2
  rcases vkey.find w hkey es.toList hh.ekeys with ⟨f1, f2⟩ | ⟨j, e0, f1, f2, f3⟩
  · have hn : ∀ p ∈ M, p.1 ≠ k := fun p hp e => by
      rw [← hh.list] at hp
      obtain ⟨x, hx, rfl⟩ := List.mem_map.1 hp
      exact f2 x hx (by rw [(hh.enc x hx).1, e])
    rw [(look_none hn).1]
    simp [Instr.lookup, run_underlying ht, MapKept.run_getObj_map hb, vkey.check w _ hkey, f1, hz, Result.andThen]
  · have hm0 : e0 ∈ es.toList := List.mem_of_getElem? f2
    have hk0 : (D e0).1 = k := kval_inj (by rw [← (hh.enc e0 hm0).1, f3])
    have hin : (k, (D e0).2) ∈ M := by
      rw [← hh.list]
      exact List.mem_map.2 ⟨e0, hm0, Prod.ext hk0 rfl⟩
    rw [(look_some hh.apart hin).1]
    simp [Instr.lookup, run_underlying ht, MapKept.run_getObj_map hb, vkey.check w _ hkey, f1, Result.andThen, (hh.enc e0 hm0).2]
theorem hasM_mem {M : List (Ent X)} {k : Int × Int} (h : hasM M k = true) : ∃ x, (k, x) ∈ M := by
  unfold hasM at h
  obtain ⟨p, hp, he⟩ := List.any_eq_true.1 h
  have : p.1 = k := by simpa using he
  exact ⟨p.2, by rw [← this]; exact hp⟩
/-- 'm[k] = x'. -/
theorem run_put {t e : TypeId} (ht : Try.prog.underlying t = some (.map 60 e)) (h : MapV ov w mb M) (h1 : I64 k.1) (h2 : I64 k.2) (x : X) :
    ∃ w', (Instr.mapUpdate t (.map (some mb)) (kval k) (ov x)).run Try.prog w = .ok () w' ∧ MapV ov w' mb (putM M k x) ∧ Fr (fun b => b = mb) w w' ∧ w'.heap.size = w.heap.size := by
  have hlt := h.lt
  obtain ⟨es, clock, D, hb, hh⟩ := h
  obtain ⟨l, hkey⟩ := key_some h1 h2
  have hset : ∀ o, Fr (fun b => b = mb) w (setBlock w mb o) ∧ (setBlock w mb o).heap.size = w.heap.size ∧ (setBlock w mb o).heap[mb]? = some o := fun o => by
    refine ⟨⟨rfl, rfl, rfl, by simp [setBlock], fun b hbl hne => ?_⟩, by simp [setBlock], by simp [setBlock, hlt]⟩
    simp only [setBlock]
    rw [Array.getElem?_setIfInBounds_ne (fun e => hne e.symm)]
  rcases vkey.find w hkey es.toList hh.ekeys with ⟨f1, f2⟩ | ⟨j, e0, f1, f2, f3⟩
  · have hn : ∀ p ∈ M, p.1 ≠ k := fun p hp e => by
      rw [← hh.list] at hp
      obtain ⟨y, hy, rfl⟩ := List.mem_map.1 hp
      exact f2 y hy (by rw [(hh.enc y hy).1, e])
    have hput : putM M k x = M ++ [(k, x)] := by unfold putM; rw [(look_none hn).2]; rfl
    obtain ⟨s1, s2, s3⟩ := hset (.map (es.push ⟨kval k, ov x, clock⟩) (clock + 1))
    refine ⟨_, ?_, ⟨_, _, fun e => if e.born = clock then (k, x) else D e, s3, ?_⟩, s1, s2⟩
    · simp [Instr.mapUpdate, run_underlying ht, MapKept.run_getObj_map hb, vkey.check w false hkey, f1, MapKept.run_setObj_map _ hb, Result.andThen, setBlock]
    · have hbo : ∀ e ∈ es.toList, e.born ≠ clock := fun e he => by have := ((stamped_iff es clock).1 hh.st).1 e he; omega
      rw [hput]
      refine ⟨stamped_push hh.st f2, ?_, fun e he => ?_, fun p hp => ?_⟩
      · rw [Array.toList_push, List.map_append, ← hh.list]
        congr 1
        · exact List.map_congr_left fun e he => if_neg (hbo e he)
        · simp
      · simp only [Array.toList_push, List.mem_append, List.mem_singleton] at he
        rcases he with he | rfl
        · rw [if_neg (hbo e he)]; exact hh.enc e he
        · simp
      · rcases List.mem_append.1 hp with hp | hp
        · exact hh.keys p hp
        · rw [List.mem_singleton.1 hp]; exact ⟨h1, h2⟩
  · have hm0 : e0 ∈ es.toList := List.mem_of_getElem? f2
    have hk0 : (D e0).1 = k := kval_inj (by rw [← (hh.enc e0 hm0).1, f3])
    have hin : (k, (D e0).2) ∈ M := by
      rw [← hh.list]
      exact List.mem_map.2 ⟨e0, hm0, Prod.ext hk0 rfl⟩
    have hput : putM M k x = M.map (fun p => if p.1 == k then (k, x) else p) := by unfold putM; rw [(look_some hh.apart hin).2]; rfl
    have hj : es[j]? = some e0 := by simpa using f2
    have hkeyf : ∀ e', es[j]? = some e' → ({ e' with key := kval k, val := ov x } : MapEntry).key = e'.key := fun e' he' => by rw [hj] at he'; cases he'; exact f3.symm
    have hlist : (es.modify j (fun e' => { e' with key := kval k, val := ov x })).toList = es.toList.set j { e0 with key := kval k, val := ov x } := by rw [Array.toList_modify, ChangeMaps.modify_eq_set _ _ _ _ f2]
    have hst := ((stamped_iff es clock).1 hh.st)
    obtain ⟨s1, s2, s3⟩ := hset (.map (es.modify j (fun e' => { e' with key := kval k, val := ov x })) clock)
    have hbj : ∀ (i : Nat) (e : MapEntry), es.toList[i]? = some e → (e.born = e0.born ↔ i = j) := fun i e hi => by
      constructor
      · intro hbb
        have hnd := hst.2.1
        have hi' : (es.toList.map (·.born))[i]? = some e0.born := by rw [List.getElem?_map, hi]; simp [hbb]
        have hj' : (es.toList.map (·.born))[j]? = some e0.born := by rw [List.getElem?_map, f2]; rfl
        exact (List.getElem?_inj (List.getElem?_eq_some_iff.1 hi').1 hnd).1 (hi'.trans hj'.symm)
      · rintro rfl
        rw [f2] at hi; cases hi; rfl
    refine ⟨_, ?_, ⟨_, _, fun e => if e.born = e0.born then (k, x) else D e, s3, ?_⟩, s1, s2⟩
    · simp [Instr.mapUpdate, run_underlying ht, MapKept.run_getObj_map hb, vkey.check w false hkey, f1, hj, f3, vkey.stays w hkey, MapKept.run_setObj_map _ hb, Result.andThen, setBlock]
    · have hap := hh.apart
      rw [hput]
      refine ⟨stamped_modify hh.st _ _ (fun _ _ => rfl) (fun e' _ he' => hkeyf e' he'), ?_, fun e he => ?_, fun p hp => ?_⟩
      · rw [hlist, ← hh.list, List.map_map]
        apply List.ext_getElem?
        intro i
        rw [List.getElem?_map, List.getElem?_map, List.getElem?_set]
        by_cases hij : j = i
        · subst hij
          have jl := (List.getElem?_eq_some_iff.1 f2).1
          rw [if_pos rfl, if_pos jl, f2]
          simp [hk0]
        · rw [if_neg hij]
          cases hi : es.toList[i]? with
          | none => rfl
          | some e =>
            have hne : ¬ e.born = e0.born := fun hb => hij ((hbj i e hi).1 hb).symm
            have hke : ¬ (D e).1 = k := fun hk => by
              have he : e ∈ es.toList := List.mem_of_getElem? hi
              have hkk : e.key = e0.key := by rw [(hh.enc e he).1, (hh.enc e0 hm0).1, hk, hk0]
              have := entry_eq_of_key hst.2.2 he hm0 hkk
              exact hne (by rw [this])
            simp [hne, hke]
      · rw [hlist] at he
        obtain ⟨i, hi⟩ := List.getElem?_of_mem he
        rw [List.getElem?_set] at hi
        by_cases hij : j = i
        · subst hij
          have jl := (List.getElem?_eq_some_iff.1 f2).1
          rw [if_pos rfl, if_pos jl] at hi
          cases hi
          simp
        · rw [if_neg hij] at hi
          have hne : ¬ e.born = e0.born := fun hb => hij ((hbj i e hi).1 hb).symm
          rw [if_neg hne]
          exact hh.enc e (List.mem_of_getElem? hi)
      · obtain ⟨q, hq, rfl⟩ := List.mem_map.1 hp
        split
        · exact ⟨h1, h2⟩
        · exact hh.keys q hq
end

end Go.Proofs.Ytpbcpocheblbfaa
