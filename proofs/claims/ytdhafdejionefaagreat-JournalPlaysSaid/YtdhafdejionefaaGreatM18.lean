/- Parts: A journal and the document's side by side, in and out of step: plain law of what a call leaves. -/
import Derived.Test.YtdhafdejionefaaGreatM17
/- A journal and the document's side by side, in and out of step: plain law of what a call leaves. -/
namespace Go.Proofs.YtdhafdejionefaaGreat
set_option linter.unusedVariables false
set_option linter.unusedSimpArgs false
open Go.RowKit

/-- Block bb and the two tapes, maybe out of step. -/
structure Pb (B : Nat) (w : World) (bb tb rb : Nat) (T U : TS) (F G : Nat → Prop) (pj pr : Option Nat) : Prop where
  blk : Blk w bb (bcells tb rb pj pr) 34
  pair : Pair B w tb rb T U F G
  nf : ¬ F bb
  ng : ¬ G bb
  bB : B ≤ bb
/-- The two journals, maybe out of step. -/
structure Js2 (B : Nat) (w : World) (bb tb rb jb rj : Nat) (J K : JS) (F G : Nat → Prop) : Prop where
  blk : Blk w jb (jcells tb J) 83
  ref : Blk w rj (rjcells rb K) 47
  jf : ¬ F jb
  jg : ¬ G jb
  rf : ¬ F rj
  rg : ¬ G rj
  jB : B ≤ jb
  rB : B ≤ rj
  nj : jb ≠ bb
  nr : rj ≠ bb
  jr : jb ≠ rj
section
variable {B : Nat} {w w' : World} {bb tb rb jb rj : Nat} {T U T' : TS} {J K J' : JS} {F G F' : Nat → Prop} {pj pr : Option Nat} {jo : Option (Nat × Nat × JS)}
theorem Bth.pb (h : Bth B w bb tb rb T F G jo) : Pb B w bb tb rb T T F G (jo.map (·.1)) (jo.map (·.2.1)) := ⟨h.blk, h.pair, h.nf, h.ng, h.bB⟩
theorem Bth.js2 (h : Bth B w bb tb rb T F G (some (jb, rj, J))) : Js2 B w bb tb rb jb rj J J F G := by
  have j := h.js jb rj J rfl
  exact ⟨j.blk, j.ref, j.jf, j.jg, j.rf, j.rg, j.jB, j.rB, j.blk.ne h.blk (by decide), j.ref.ne h.blk (by decide), j.blk.ne j.ref (by decide)⟩
theorem Pb.bth (h : Pb B w bb tb rb T T F G (some jb) (some rj)) (hj : Js2 B w bb tb rb jb rj J J F G) (hw : Well T) (ht : JT J T) : Bth B w bb tb rb T F G (some (jb, rj, J)) :=
  ⟨h.blk, h.pair, h.nf, h.ng, h.bB, hw, fun a b c e => by cases e; exact ⟨hj.blk, hj.ref, hj.jf, hj.jg, hj.rf, hj.rg, hj.jB, hj.rB, ht⟩⟩
theorem Pb.bth0 (h : Pb B w bb tb rb T T F G none none) (hw : Well T) : Bth B w bb tb rb T F G none := ⟨h.blk, h.pair, h.nf, h.ng, h.bB, hw, fun a b c e => by cases e⟩
theorem Pb.below (h : Pb B w bb tb rb T U F G pj pr) (hb : Below w.heap.size w w') : Pb B w' bb tb rb T U F G pj pr := ⟨h.blk.below hb, h.pair.below hb, h.nf, h.ng, h.bB⟩
theorem Js2.below (h : Js2 B w bb tb rb jb rj J K F G) (hb : Below w.heap.size w w') : Js2 B w' bb tb rb jb rj J K F G := ⟨h.blk.below hb, h.ref.below hb, h.jf, h.jg, h.rf, h.rg, h.jB, h.rB, h.nj, h.nr, h.jr⟩
theorem Pb.c0 (h : Pb B w bb tb rb T U F G pj pr) : w.cell? ⟨bb, 0, none⟩ = some (.pointer (some ⟨tb, 0, none⟩)) := h.blk.cell 0
theorem Pb.c1 (h : Pb B w bb tb rb T U F G pj pr) : w.cell? ⟨bb, 1, none⟩ = some (pat pj) := h.blk.cell 1
theorem Pb.c2 (h : Pb B w bb tb rb T U F G pj pr) : w.cell? ⟨bb, 2, none⟩ = some (.pointer (some ⟨rb, 0, none⟩)) := h.blk.cell 2
theorem Pb.c3 (h : Pb B w bb tb rb T U F G pj pr) : w.cell? ⟨bb, 3, none⟩ = some (pat pr) := h.blk.cell 3
theorem Pb.updT (h : Pb B w bb tb rb T U F G pj pr) (ht : TapeR w' tb T' F') (hu : Upd w w' F F') : Pb B w' bb tb rb T' U F' G pj pr ∧ Below B w w' := by
  obtain ⟨h1, h2⟩ := h.pair.updT ht hu
  exact ⟨⟨h.blk.fr hu.fr h.nf, h1, fun f => (hu.new bb f).elim h.nf (fun h' => by have := h.blk.lt; omega), h.ng, h.bB⟩, h2⟩
theorem Pb.updR (h : Pb B w bb tb rb T U F G pj pr) (ht : RefR w' rb T' F') (hu : Upd w w' G F') : Pb B w' bb tb rb T T' F F' pj pr ∧ Below B w w' := by
  obtain ⟨h1, h2⟩ := h.pair.updR ht hu
  exact ⟨⟨h.blk.fr hu.fr h.ng, h1, h.nf, fun f => (hu.new bb f).elim h.ng (fun h' => by have := h.blk.lt; omega), h.bB⟩, h2⟩
theorem Js2.updT (h : Js2 B w bb tb rb jb rj J K F G) (hu : Upd w w' F F') : Js2 B w' bb tb rb jb rj J K F' G :=
  ⟨h.blk.fr hu.fr h.jf, h.ref.fr hu.fr h.rf, fun f => (hu.new _ f).elim h.jf (fun h' => by have := h.blk.lt; omega), h.jg, fun f => (hu.new _ f).elim h.rf (fun h' => by have := h.ref.lt; omega), h.rg, h.jB, h.rB, h.nj, h.nr, h.jr⟩
theorem Js2.updR (h : Js2 B w bb tb rb jb rj J K F G) (hu : Upd w w' G F') : Js2 B w' bb tb rb jb rj J K F F' :=
  ⟨h.blk.fr hu.fr h.jg, h.ref.fr hu.fr h.rg, h.jf, fun f => (hu.new _ f).elim h.jg (fun h' => by have := h.blk.lt; omega), h.rf, fun f => (hu.new _ f).elim h.rg (fun h' => by have := h.ref.lt; omega), h.jB, h.rB, h.nj, h.nr, h.jr⟩
theorem Js2.jrr (h : Js2 B w bb tb rb jb rj J K F G) (hp : Pb B w bb tb rb T U F G pj pr) : JR w jb tb J T F := ⟨h.blk, hp.pair.tape, h.jf⟩
theorem Js2.rjr (h : Js2 B w bb tb rb jb rj J K F G) (hp : Pb B w bb tb rb T U F G pj pr) : RJ w rj rb K U G := ⟨h.ref, hp.pair.ref, h.rg⟩
/-- What a call on the journal leaves. -/
theorem Js2.updJ (h : Js2 B w bb tb rb jb rj J K F G) (hp : Pb B w bb tb rb T U F G pj pr) (hj : JR w' jb tb J' T' F') (hu : Upd w w' (FJ F jb) (FJ F' jb)) :
    Pb B w' bb tb rb T' U F' G pj pr ∧ Js2 B w' bb tb rb jb rj J' K F' G ∧ Below B w w' := by
  have hB : ∀ k, FJ F jb k → B ≤ k := fun k hk => hk.elim (hp.pair.fB k) (fun e => e ▸ h.jB)
  obtain ⟨b1, b2⟩ := upd_below hu hp.pair.size hB
  have hnew : ∀ k, F' k → F k ∨ w.heap.size ≤ k := fun k hk => (hu.new k (.inl hk)).elim (fun x => x.elim .inl (fun e => absurd (e ▸ hk) hj.no)) .inr
  have hbb : ¬ FJ F jb bb := fun x => x.elim hp.nf (fun e => h.nj e.symm)
  have hrj : ¬ FJ F jb rj := fun x => x.elim h.rf (fun e => h.jr e.symm)
  refine ⟨⟨hp.blk.fr hu.fr hbb, ⟨hj.tape, hp.pair.ref.fr hu.fr (fun k hk x => x.elim (fun f => hp.pair.apart k f hk) (fun e => h.jg (e ▸ hk))), fun k hk hg => (hnew k hk).elim (fun f => hp.pair.apart k f hg) (fun hl => by have := hp.pair.glt k hg; omega), fun k hk => b2 k (.inl hk), hp.pair.gB, Nat.le_trans hp.pair.size hu.fr.size⟩, fun f => (hnew bb f).elim hp.nf (fun h' => by have := hp.blk.lt; omega), hp.ng, hp.bB⟩, ⟨hj.blk, h.ref.fr hu.fr hrj, hj.no, h.jg, fun f => (hnew rj f).elim h.rf (fun h' => by have := h.ref.lt; omega), h.rg, h.jB, h.rB, h.nj, h.nr, h.jr⟩, b1⟩
theorem Js2.updRJ (h : Js2 B w bb tb rb jb rj J K F G) (hp : Pb B w bb tb rb T U F G pj pr) (hj : RJ w' rj rb J' T' F') (hu : Upd w w' (FJ G rj) (FJ F' rj)) :
    Pb B w' bb tb rb T T' F F' pj pr ∧ Js2 B w' bb tb rb jb rj J J' F F' ∧ Below B w w' := by
  have hB : ∀ k, FJ G rj k → B ≤ k := fun k hk => hk.elim (hp.pair.gB k) (fun e => e ▸ h.rB)
  obtain ⟨b1, b2⟩ := upd_below hu hp.pair.size hB
  have hnew : ∀ k, F' k → G k ∨ w.heap.size ≤ k := fun k hk => (hu.new k (.inl hk)).elim (fun x => x.elim .inl (fun e => absurd (e ▸ hk) hj.no)) .inr
  have hbb : ¬ FJ G rj bb := fun x => x.elim hp.ng (fun e => h.nr e.symm)
  have hjb : ¬ FJ G rj jb := fun x => x.elim h.jg (fun e => h.jr e)
  refine ⟨⟨hp.blk.fr hu.fr hbb, ⟨hp.pair.tape.fr hu.fr (fun k hk x => x.elim (fun f => hp.pair.apart k hk f) (fun e => h.rf (e ▸ hk))), hj.tape, fun k hk hg => (hnew k hg).elim (fun f => hp.pair.apart k hk f) (fun hl => by have := hp.pair.flt k hk; omega), hp.pair.fB, fun k hk => b2 k (.inl hk), Nat.le_trans hp.pair.size hu.fr.size⟩, hp.nf, fun f => (hnew bb f).elim hp.ng (fun h' => by have := hp.blk.lt; omega), hp.bB⟩, ⟨h.blk.fr hu.fr hjb, hj.blk, h.jf, fun f => (hnew jb f).elim h.jg (fun h' => by have := h.blk.lt; omega), h.rf, hj.no, h.jB, h.rB, h.nj, h.nr, h.jr⟩, b1⟩
end
/-- An act, as it came in. -/
structure ActIn (B : Nat) (w : World) (A A2 : Option Addr) (ys : List UInt8) (ls : List (List UInt8)) (n : Int) : Prop where
  n : n ≤ 9223372036854775807
  y : ys.length ≤ 8000
  x : RB w A ys
  a : ∀ ad, A = some ad → 0 < ys.length → ad.block < B
  l : ls.length ≤ 100
  r : RLs w (fun k => B ≤ k) A2 ls
theorem ActIn.below {B : Nat} {w w' : World} {A A2 : Option Addr} {ys : List UInt8} {ls : List (List UInt8)} {n : Int} (h : ActIn B w A A2 ys ls n) (hb : Below B w w') : ActIn B w' A A2 ys ls n :=
  ⟨h.n, h.y, h.x.fr2 (F := fun k => B ≤ k) ⟨hb.os, hb.tape, hb.output, hb.size, fun k _ hk => hb.block k (by omega)⟩ (fun a ha h0 => by have := h.a a ha h0; omega), h.a, h.l, h.r.old hb⟩
theorem ActIn.na {B : Nat} {w : World} {A A2 : Option Addr} {ys : List UInt8} {ls : List (List UInt8)} {n : Int} (h : ActIn B w A A2 ys ls n) {F : Nat → Prop} (hF : ∀ k, F k → B ≤ k) : ∀ ad, A = some ad → 0 < ys.length → ¬ F ad.block := fun ad ha h0 f => by
  have := h.a ad ha h0
  have := hF _ f
  omega
def acells (kind n keep : Int) (A A2 : Option Addr) (m c m2 c2 : Nat) : Array Value := #[.int .i64 kind, .slice A m c, .slice A2 m2 c2, .int .i64 n, .int .i64 keep]

end Go.Proofs.YtdhafdejionefaaGreat
