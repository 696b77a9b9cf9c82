/- The walk of the journal's Open. -/
import Derived.Test.YtnkenkdglcmpdaaJouP
namespace Go.Proofs.Ytnkenkdglcmpdaa
set_option linter.unusedVariables false
set_option linter.unusedSimpArgs false
open Go.RowKit

/-- What an area holds: its turn, its records. -/
def turnA (T : TS) (a : Int) : Int := turnOf (framesP (T.read a))
def recsA (T : TS) (a : Int) : List (List UInt8) := recsOf (framesP (T.read a))
/-- What Open finds: the journal that it lays anew, the records. -/
def foundStep (T : TS) (a : Int) (s : JS × List (List UInt8)) : JS × List (List UInt8) :=
  if s.1.turn < turnA T a then ({ s.1 with area := a, turn := turnA T a }, recsA T a) else s
def foundN (T : TS) : Nat → JS × List (List UInt8)
  | 0 => (⟨1, 0, 0, T.fails⟩, [])
  | k + 1 => foundStep T (k : Int) (foundN T k)
def found (T : TS) : JS × List (List UInt8) := foundN T 2
theorem foundN_ok (T : TS) : ∀ k, k ≤ 2 → (foundN T k).1.ok ∧ (foundN T k).2.length ≤ max (T.read 0).length (T.read 1).length
  | 0, _ => ⟨⟨.inr rfl, by simp [foundN], by simp [foundN]⟩, by simp [foundN]⟩
  | k + 1, hk => by
    have ih := foundN_ok T k (by omega)
    rw [foundN, foundStep]
    split
    · have hb := turnOf_bound (framesP (T.read (k : Int)))
      refine ⟨⟨?_, hb.1, hb.2⟩, ?_⟩
      · simp only; omega
      · have h1 := recsOf_len (framesP (T.read (k : Int)))
        have h2 := framesP_len (T.read (k : Int))
        simp only [recsA]
        have : k = 0 ∨ k = 1 := by omega
        rcases this with rfl | rfl
        · exact Nat.le_trans h1 (Nat.le_trans h2 (Nat.le_max_left _ _))
        · exact Nat.le_trans h1 (Nat.le_trans h2 (Nat.le_max_right _ _))
    · exact ih
/-- What Open does: the error, the tape, the journal; the records are found's. -/
def openP (T : TS) : Int × TS × JS := if T.off = true then (150, T, (found T).1) else (found T).1.lay T (found T).2
theorem RLs.nil (w : World) (X : Nat → Prop) (A : Option Addr) : RLs w X A [] := fun j l h => by simp at h
theorem OL.rls {B : Nat} {w : World} {v : Value} {ls : List (List UInt8)} {X : Nat → Prop} (h : OL B w v ls) (hX : ∀ k, X k → k < B) : ∃ A c, v = .slice A ls.length c ∧ RLs w X A ls := by
  obtain ⟨cs, ho, hc⟩ := h
  obtain ⟨A, c, rfl⟩ := own_form ho
  refine ⟨A, c, rfl, fun j l hj => ?_⟩
  have hjl : j < ls.length := (List.getElem?_eq_some_iff.1 hj).1
  have hcl : cs.length = ls.length := by have := ho.1; omega
  have hcj : cs[j]? = some cs[j] := List.getElem?_eq_getElem (by omega)
  have hb := hc j _ l hcj hj
  rcases ho.2 with ⟨h1, h2⟩ | ⟨g, cap, cur, hv, hg, hh, _⟩
  · omega
  · simp at hv
    obtain ⟨rfl, rfl⟩ := hv
    have hown := World.ownsRow.cells ho (g := g) rfl j _ hcj
    have ha : (⟨g, 0, none⟩ : Addr).add j = ⟨g, 0 + j, none⟩ := by unfold Addr.add; split <;> simp_all
    rw [ha] at hown
    refine ⟨g, 0, _, rfl, (Array.getElem?_eq_some_iff.1 hh).1, fun hx => by have := hX _ hx; omega, hown, ?_⟩
    obtain ⟨A1, n, e1, e2, e3, e4⟩ := hb
    exact ⟨A1, n, e1, e2, e3, fun a ha h0 => ⟨Nat.zero_le _, fun hx => by have := hX _ hx; have := (e4 a ha h0).1; omega⟩⟩
def OpenPost (w : World) (tb : Nat) (F : Nat → Prop) (T : TS) (e : Ending) (w' : World) : Prop :=
  ∃ F', if (openP T).1 = 0 then ∃ jb A c, e = .returned (.tuple #[.pointer (some ⟨jb, 0, none⟩), .slice A (found T).2.length c, .int .i64 0]) ∧ JR w' jb tb (openP T).2.2 (openP T).2.1 F' ∧ w.heap.size ≤ jb ∧ RLs w' (FJ F' jb) A (found T).2 ∧ Upd w w' F (FJ F' jb)
  else e = .returned (.tuple #[.pointer none, .slice none 0 0, .int .i64 (openP T).1]) ∧ TapeR w' tb (openP T).2.1 F' ∧ Upd w w' F F'
variable {w : World} {tb : Nat} {T : TS} {F : Nat → Prop}
set_option maxRecDepth 100000 in
set_option maxHeartbeats 8000000 in
theorem jopen_any (h : TapeR w tb T F) : Calls Try.prog 42 #[.pointer (some ⟨tb, 0, none⟩)] w (OpenPost w tb F T) := by
  go_enter Try.func42, Try.ntmps42
  go_wp2_with fail
  refine (fault_look tb 0 T F w h).mono ?_
  rintro e w1 ⟨A0, c0, m0, rfl, z1, z2, z3, hb, z4⟩
  clear z1 z2 z3 z4
  have h1 := h.below hb
  have HB := Lib.hid hb
  obtain ⟨v, hv⟩ : ∃ v, v = faultN T.off 0 := ⟨_, rfl⟩
  rw [← hv]
  clear hb h
  by_cases ho : T.off = true
  · replace hv : v = 150 := by rw [hv, ho]; rfl
    subst hv
    have ho' : openP T = (150, T, (found T).1) := by unfold openP; rw [if_pos ho]
    have HO := Lib.hid ho'
    clear ho ho'
    go_wp2_with fail
    refine bodyPost_ret (results_tmp3 rfl _ _ _) rfl ?_
    refine ⟨F, ?_⟩
    have ho' := HO.out
    rw [ho', if_neg (by simp)]
    exact ⟨rfl, h1, Upd.of_below HB.out⟩
  · have ho0 : T.off = false := by simpa using ho
    replace hv : v = 0 := by rw [hv, ho0]; rfl
    subst hv
    have hop : openP T = (found T).1.lay T (found T).2 := by unfold openP; rw [if_neg ho]
    have HOP := Lib.hid hop
    clear ho hop ho0
    go_wp2_with fail
    refine (counts_any tb T F w1 h1).mono ?_
    rintro e w2 ⟨rfl, n, hw2⟩
    have hb : Below w1.heap.size w1 w2 := by rw [hw2]; exact ⟨rfl, rfl, rfl, Nat.le_refl _, fun _ _ => rfl⟩
    have h2 := h1.below hb
    have HB2 := Lib.hid (HB.out.trans (Below.up hb HB.out.size))
    obtain ⟨fl, hfl⟩ : ∃ fl, fl = T.fails := ⟨_, rfl⟩
    rw [← hfl]
    have HFL := Lib.hid hfl
    clear hw2 hb h1 hfl
    go_wp2_with fail
    obtain ⟨w3, hw3⟩ : ∃ w3, w3 = w2.alloc (.cells #[.pointer (some ⟨tb, 0, none⟩), .int .i64 1, .int .i64 0, .int .i64 0, .int .i64 fl] 76) := ⟨_, rfl⟩
    rw [← hw3]
    have hlt : ∀ k, F k → k < w2.heap.size := by obtain ⟨_, _, _, t⟩ := h2; exact t.flt
    have h3 : JR w3 w2.heap.size tb (foundN T 0).1 T F := by
      refine ⟨?_, ?_, fun hf => by have := hlt _ hf; omega⟩
      · rw [hw3]
        have := Blk.new w2 #[.pointer (some ⟨tb, 0, none⟩), .int .i64 1, .int .i64 0, .int .i64 0, .int .i64 fl] 76
        rw [HFL.out] at this
        rw [HFL.out]
        exact this
      · rw [hw3]; exact h2.below ((Below.refl _ _).alloc (Nat.le_refl _) _)
    have u3 : Upd w w3 F (FJ F w2.heap.size) := by
      refine ⟨Fr.of_below (HB2.out.trans (Below.up (by rw [hw3]; exact (Below.refl _ _).alloc (Nat.le_refl _) _) HB2.out.size)), fun k hk => ?_⟩
      rcases hk with hk | hk
      · exact .inl hk
      · have := HB2.out.size; exact .inr (by omega)
    have hlj : w.heap.size ≤ w2.heap.size := HB2.out.size
    obtain ⟨jb, hjb⟩ : ∃ jb, jb = w2.heap.size := ⟨_, rfl⟩
    rw [← hjb] at h3 u3 hlj ⊢
    have H3 := Lib.hid h3
    have U3 := Lib.hid u3
    clear h3 u3 hjb hw3 HB2 h2 hlt HFL HB
    go_loopw [10, 32] (fun rv i wr => ∃ (k : Nat) (A : Option Addr) (c : Nat), k ≤ 2 ∧ i = .int .i64 (k : Int) ∧ rv = .slice A (foundN T k).2.length c ∧ Hid (JR wr jb tb (foundN T k).1 T F) ∧ Hid (RLs wr (FJ F jb) A (foundN T k).2) ∧ Hid (Upd w wr F (FJ F jb))) (fun _ i _ => 2 - (intOf i).toNat)
    case atStart => exact ⟨0, none, 0, by omega, rfl, rfl, H3, Lib.hid (RLs.nil _ _ _), U3⟩
    case round =>
      clear H3 U3
      obtain ⟨k, A, c, hk, rfl, rfl, HW, HL, HU⟩ := hrel
      obtain ⟨⟨Jk, ls⟩, hS⟩ : ∃ S, S = foundN T k := ⟨_, rfl⟩
      rw [← hS] at HW HL ⊢
      by_cases hlt2 : k < 2
      · have hstep : foundN T (k + 1) = foundStep T (k : Int) (Jk, ls) := by rw [foundN, ← hS]
        unfold foundStep at hstep
        have HS := Lib.hid hstep
        obtain ⟨L, hL⟩ : ∃ L, L = ls.length := ⟨_, rfl⟩
        have HLL := Lib.hid hL
        try simp only at HW HL ⊢
        rw [← hL]
        clear hstep hS hL
        go_wp2_with fail
        refine (look_any tb (k : Int) T F wr HW.out.tape).mono ?_
        rintro e w5 ⟨lv, rfl, hol, hb5⟩
        have h5 := HW.out.below hb5
        have hr5 := HL.out.upd (Upd.of_below hb5)
        obtain ⟨A5, c5, rfl, hr6⟩ := hol.rls (X := FJ F jb) (fun k hk => by
          obtain ⟨_, _, _, t⟩ := HW.out.tape
          have := HW.out.blk.lt
          rcases hk with hk | hk
          · exact t.flt _ hk
          · omega)
        have HR5 := Lib.hid hr5
        have HR6 := Lib.hid hr6
        have H5 := Lib.hid h5
        have U5 := Lib.hid (HU.out.trans (Upd.of_below hb5))
        have ct := h5.c2
        have f1 := h5.blk.free 1
        have f2 := h5.blk.free 2
        have c1 := h5.c1
        obtain ⟨tk, htk⟩ : ∃ tk, tk = turnOf (framesP (T.read (k : Int))) := ⟨_, rfl⟩
        obtain ⟨M, hM⟩ : ∃ M, M = (recsOf (framesP (T.read (k : Int)))).length := ⟨_, rfl⟩
        obtain ⟨jt, hjt⟩ : ∃ jt, jt = Jk.turn := ⟨_, rfl⟩
        have hs := HS.out
        unfold turnA recsA at hs
        try simp only at hs
        rw [← htk, ← hjt] at hs
        rw [← hjt] at ct
        rw [← htk, ← hM]
        have HS := Lib.hid hs
        have HM := Lib.hid hM
        clear hb5 hol hr5 hr6 h5 htk hM hjt hs
        by_cases hlt3 : jt < tk
        · have hs := HS.out
          rw [if_pos hlt3] at hs
          have HS := Lib.hid hs
          clear hs
          go_wp2_with fail
          go_roundw
          case rel =>
            obtain ⟨k1, v1⟩ := H5.out.set (J' := { Jk with area := (k : Int) }) 1 (.int .i64 (k : Int)) rfl
            obtain ⟨k2, v2⟩ := k1.set (J' := { Jk with area := (k : Int), turn := tk }) 2 (.int .i64 tk) rfl
            refine ⟨k + 1, A5, c5, by omega, by go_num, ?_, Lib.hid ?_, Lib.hid ?_, Lib.hid ((U5.out.trans v1).trans v2)⟩
            · rw [HS.out, HM.out]
            · rw [HS.out]; exact k2
            · rw [HS.out]; exact (HR6.out.upd v1).upd v2
          case measure => simp [intOf]; omega
        · have hs := HS.out
          rw [if_neg hlt3] at hs
          have HS := Lib.hid hs
          clear hs
          go_wp2_with fail
          go_roundw
          case rel =>
            refine ⟨k + 1, A, c, by omega, by go_num, ?_, Lib.hid ?_, Lib.hid ?_, U5⟩
            · rw [HS.out, HLL.out]
            · rw [HS.out]; exact H5.out
            · rw [HS.out]; exact HR5.out
          case measure => simp [intOf]; omega
      · have hk2 : k = 2 := by omega
        subst hk2
        have hfo := foundN_ok T 2 (Nat.le_refl _)
        have hfe : found T = (Jk, ls) := hS.symm
        rw [← hS] at hfo
        have hop := HOP.out
        rw [hfe] at hop
        try simp only at hop hfo HW HL ⊢
        have hrl : ls.length ≤ 2000000000 := by
          obtain ⟨_, _, _, t⟩ := HW.out.tape
          have r0 := TS.read_len t.wf 0
          have r1 := TS.read_len t.wf 1
          have := hfo.2
          omega
        have hcall := jlay_any A c ls HW.out HL.out hrl hfo.1
        obtain ⟨L, hL⟩ : ∃ L, L = ls.length := ⟨_, rfl⟩
        rw [← hL] at hcall ⊢
        obtain ⟨⟨p, T', J'⟩, hp⟩ : ∃ r, r = Jk.lay T ls := ⟨_, rfl⟩
        rw [← hp] at hcall hop
        have HOP := Lib.hid hop
        have HFE := Lib.hid hfe
        have HLL := Lib.hid hL
        have HC := Lib.hid hcall
        clear hS hfo hfe hop hrl hcall hL hp
        go_wp2_with fail
        refine HC.out.mono ?_
        rintro e w5 ⟨rfl, F', h5, u5⟩
        have H5 := Lib.hid h5
        have U5 := Lib.hid (HU.out.trans u5)
        have HR5 := Lib.hid (HL.out.upd u5)
        clear h5 u5 HC HU
        by_cases hp0 : p = 0
        · subst hp0
          go_wp2_with fail
          refine bodyPost_ret (results_tmp3 rfl _ _ _) rfl ?_
          refine ⟨F', ?_⟩
          rw [HOP.out, HFE.out, if_pos rfl]
          refine ⟨jb, A, c, ?_, H5.out, hlj, HR5.out, U5.out⟩
          rw [← HLL.out]
          rfl
        · have hp0' : (p == 0) = false := by simp [hp0]
          go_wp2_with fail
          refine bodyPost_ret (results_tmp3 rfl _ _ _) rfl ?_
          refine ⟨F', ?_⟩
          rw [HOP.out, if_neg hp0]
          exact ⟨rfl, H5.out.tape, U5.out.fr, fun k hk => U5.out.new k (.inl hk)⟩

end Go.Proofs.Ytnkenkdglcmpdaa
