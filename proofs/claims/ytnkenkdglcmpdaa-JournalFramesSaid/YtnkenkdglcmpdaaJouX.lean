/- The law JournalAgain: however often a journal is opened, it has the same records. -/
import Derived.Test.YtnkenkdglcmpdaaJouW
namespace Go.Proofs.Ytnkenkdglcmpdaa
set_option linter.unusedVariables false
set_option linter.unusedSimpArgs false
open Go.RowKit

theorem wf_j {a : Int} (h : (Lit.int .i64 a).wf = true) : -9223372036854775808 ≤ a ∧ a ≤ 9223372036854775807 := by
  have h2 : IntKind.i64.min ≤ a ∧ a ≤ IntKind.i64.max := by simpa [Lit.wf] using h
  simp [IntKind.min, IntKind.max, IntKind.signed, IntKind.bits] at h2
  omega
theorem RLs.own {B : Nat} {w : World} {A : Option Addr} {ls : List (List UInt8)} {X : Nat → Prop} (h : RLs w (fun k => B ≤ k) A ls) (hX : ∀ k, X k → B ≤ k) : RLs w X A ls := h.mono fun k _ hk => hX k hk
set_option maxRecDepth 100000 in
set_option maxHeartbeats 8000000 in
theorem lawAgain (A : Option Addr) (c : Nat) (xs : List RecV) (times : Int) (w : World) (h : RecsR w A xs) (hl : xs.length ≤ 9223372036854775807) (hti : -9223372036854775808 ≤ times ∧ times ≤ 9223372036854775807) :
    Calls Try.prog 11 #[.slice A xs.length c, .int .i64 times] w fun e w' => e = .returned (.bool true) ∧ Below w.heap.size w w' := by
  obtain ⟨N, hN⟩ : ∃ N, N = xs.length := ⟨_, rfl⟩
  rw [← hN] at hl ⊢
  obtain ⟨B, hB⟩ : ∃ B, B = w.heap.size := ⟨_, rfl⟩
  rw [← hB]
  have HBW := Lib.hid hB
  clear hB
  have HN := Lib.hid hN
  have H := Lib.hid h
  have hti1 := hti.1
  have hti2 := hti.2
  clear h hN hti
  go_enter Try.func11, Try.ntmps11
  by_cases h100 : 100 < N
  · go_wp2_with fail
    refine (jlives_true w).mono ?_
    rintro e w1 ⟨rfl, hb⟩
    go_wp2_with fail
    go_ret
    exact ⟨rfl, by rw [HBW.out]; exact hb⟩
  go_wp2_with fail
  rw [HN.out]
  refine (light8_any A c xs w H.out (by rw [← HN.out]; exact hl)).mono ?_
  rw [← HN.out]
  rintro e w1 ⟨b, rfl, hlb, hb1⟩
  have HB1 := Lib.hid hb1
  cases b with
  | false =>
    clear hb1 hlb
    go_wp2_with fail
    refine (jlives_true w1).mono ?_
    rintro e w2 ⟨rfl, hb⟩
    have HB2 := Lib.hid (HB1.out.trans (Below.up hb HB1.out.size))
    clear hb
    go_wp2_with fail
    go_ret
    exact ⟨rfl, by rw [HBW.out]; exact HB2.out⟩
  | true =>
    obtain ⟨ls, hll, hrl, hs8, htot⟩ := recs_lists H.out (hlb rfl)
    rw [← HBW.out] at hrl HB1
    have HL := Lib.hid (hrl.old HB1.out)
    have HS := Lib.hid hs8
    have HTO := Lib.hid htot
    have hNl : N = ls.length := by rw [HN.out, hll]
    have HNL := Lib.hid hNl
    have HSZ : Hid (B ≤ w1.heap.size) := Lib.hid (by have := HB1.out.size; have := HBW.out; omega)
    clear hll hrl hs8 htot hlb hb1 hNl HN H
    go_wp2_with fail
    refine (made w1.heap.size 1048576 w1 rfl (by decide) (by decide)).mono ?_
    rintro e w2 ⟨tb, rfl, ⟨hs2, F2, h2, hF2⟩, b2⟩
    have H2 := Lib.hid h2
    have B2 := Lib.hid (HB1.out.trans (Below.up b2 HSZ.out))
    have HF2 : Hid (∀ k, F2 k → B ≤ k) := Lib.hid fun k hk => Nat.le_trans HSZ.out (hF2 k hk)
    have HS2 : Hid (B ≤ w2.heap.size) := Lib.hid (Nat.le_trans HSZ.out b2.size)
    have HL2 := Lib.hid (HL.out.old (Below.up b2 HSZ.out))
    clear h2 b2 hs2 hF2 HB1 HSZ HL
    go_wp2_with fail
    refine (jopen_any H2.out).mono ?_
    rintro e w3 ⟨F3, h3⟩
    rw [show openP (TS.new 1048576) = n1 from rfl, if_pos n1_e.1, n1_e.2] at h3
    obtain ⟨jb, A3, c3, rfl, hj3, hjb, _, hu3⟩ := h3
    have hB3 := upd_below hu3 HS2.out HF2.out
    have H3 := Lib.hid (show JN B w3 jb tb n1.2.2 n1.2.1 F3 from ⟨hj3, hB3.2, Nat.le_trans HS2.out hu3.fr.size⟩)
    have B3 := Lib.hid (B2.out.trans hB3.1)
    have HL3 := Lib.hid (HL2.out.old hB3.1)
    clear hj3 hu3 hB3 hjb H2 B2 HF2 HS2 HL2
    go_wp2_with fail
    go_loopw [35] (fun i wr => ∃ (k : Nat) (F : Nat → Prop) (J : JS) (T : TS), k ≤ N ∧ i = .int .i64 (k : Int) ∧ Hid (JN B wr jb tb J T F) ∧ Hid (Run T J (ls.take k)) ∧ Hid (Below B w wr) ∧ Hid (RLs wr (fun k => B ≤ k) A ls)) (fun i _ => N - (intOf i).toNat)
    case atStart => exact ⟨0, F3, n1.2.2, n1.2.1, Nat.zero_le _, rfl, H3, Lib.hid n1_run, B3, HL3⟩
    case round =>
      clear H3 B3 HL3
      obtain ⟨k, F, J, T, hk, rfl, HJ, HR, HB, HL⟩ := hrel
      by_cases hlt : k < N
      · obtain ⟨l, hl1⟩ : ∃ l, ls[k]? = some l := ⟨_, List.getElem?_eq_getElem (by rw [← HNL.out]; exact hlt)⟩
        obtain ⟨b, off, cc, hA, hbl, hX, hcell, A1, n1', rfl, hn1, hrb, hX1⟩ := HL.out k l hl1
        subst hA
        have hts : ls.take (k + 1) = ls.take k ++ [l] := take_snoc ls k l hl1
        have happ := HR.out.append l (fun x hx => HS.out x (List.mem_of_mem_take (by rw [hts]; exact hx))) (by rw [← hts]; have := total_take ls (k + 1); have := HTO.out; omega)
        have hcall := jappend_any A1 n1' l HJ.out.jr hrb
        obtain ⟨m, hm⟩ : ∃ m, m = l.length := ⟨_, rfl⟩
        rw [← hm] at hcall hcell
        obtain ⟨⟨p, T', J'⟩, hr⟩ : ∃ r, r = J.append T l := ⟨_, rfl⟩
        rw [← hr] at hcall happ
        obtain ⟨hp0, hrun⟩ := happ
        have hp0 : p = 0 := hp0
        subst hp0
        have HC := Lib.hid hcall
        have HRN := Lib.hid (show Run T' J' (ls.take (k + 1)) by rw [hts]; exact hrun)
        clear hl1 hrb hX1 hts hcall hm hr hrun
        go_wp2_with fail
        refine HC.out.mono ?_
        rintro e w5 ⟨rfl, F5, hj5, hu5⟩
        obtain ⟨h5, b5⟩ := HJ.out.upd hj5 hu5
        have H5 := Lib.hid h5
        have B5 := Lib.hid (HB.out.trans b5)
        have HL5 := Lib.hid (HL.out.old b5)
        clear hj5 hu5 h5 b5 HC HJ HB HL HR
        go_wp2_with fail
        go_roundw
        case rel => exact ⟨k + 1, F5, J', T', hlt, by go_num, H5, HRN, B5, HL5⟩
        case measure => simp [intOf]; omega
      · have hkN : k = N := by omega
        subst hkN
        have hrun := HR.out
        rw [HNL.out, List.take_length] at hrun
        have hhas : Again T 0 1 ls := ⟨hrun.has HS.out HTO.out, hrun.room, by rw [hrun.b0]; have := runF_len ls (fun x hx => by have := HS.out x hx; omega); have := HTO.out; omega⟩
        have HA := Lib.hid hhas
        have HTT := Lib.hid HJ.out.jr.tape
        have HFF : Hid (∀ k, F k → B ≤ k) := Lib.hid fun k hk => HJ.out.from_ k (.inl hk)
        have HSS := Lib.hid HJ.out.size
        clear hrun hhas HR HJ
        obtain ⟨m, hm6, hme⟩ := modq times 6 (by decide) (by decide)
        have hme : wrap64 ((IntKind.u64.wrap times).tmod 6) = (m : Int) := hme
        go_wp2_with fail
        rw [hme]
        clear hme
        go_loopw [48] (fun i wr => ∃ (q : Nat) (F : Nat → Prop) (T : TS) (a : Int), q ≤ m ∧ i = .int .i64 (q : Int) ∧ Hid (TapeR wr tb T F) ∧ Hid (∀ k, F k → B ≤ k) ∧ Hid (B ≤ wr.heap.size) ∧ Hid (Again T a (q + 1) ls) ∧ Hid (Below B w wr) ∧ Hid (RLs wr (fun k => B ≤ k) A ls)) (fun i _ => m - (intOf i).toNat)
        case atStart => exact ⟨0, F, T, 0, Nat.zero_le _, rfl, HTT, HFF, HSS, HA, HB, HL⟩
        case round =>
          clear HTT HFF HSS HA HB HL
          obtain ⟨q, F, T, a, hq, rfl, HTT, HFF, HSS, HA, HB, HL⟩ := hrel
          by_cases hlt : q < m
          · obtain ⟨o1, o2, o3, o4, o5, o6, o7, o8⟩ := HA.out.next (by omega) HS.out HTO.out
            obtain ⟨⟨p, T', J'⟩, hr⟩ : ∃ r, r = openP T := ⟨_, rfl⟩
            have hcall := jopen_any HTT.out
            unfold OpenPost at hcall
            rw [o3] at hcall
            rw [← hr] at o1 o2 o4 o5 o6 o7 hcall
            simp only at o1 o2 o4 o5 o6 o7 hcall
            subst o1
            obtain ⟨L, hL⟩ : ∃ L, L = (encs (laid ls (q + 1 + 1))).length := ⟨_, rfl⟩
            rw [← hL] at o2 o7 o8
            have hcall' : Calls Try.prog 42 #[.pointer (some ⟨tb, 0, none⟩)] wr fun e w' => ∃ F' jb A c, e = .returned (.tuple #[.pointer (some ⟨jb, 0, none⟩), .slice A ls.length c, .int .i64 0]) ∧ JR w' jb tb J' T' F' ∧ RLs w' (FJ F' jb) A ls ∧ Upd wr w' F (FJ F' jb) :=
              hcall.mono fun e w' ⟨F', h⟩ => by
                rw [if_pos rfl] at h
                obtain ⟨jb, A, c, h1, h2, _, h3, h4⟩ := h
                exact ⟨F', jb, A, c, h1, h2, h3, h4⟩
            rw [← HNL.out] at hcall'
            have hJt : J'.turn = (q : Int) + 1 + 1 := by rw [o2]; simp
            have hJs : (T'.sure J'.area == J'.len T') = true := by
              have hf : J'.fault T' = 0 := by unfold JS.fault; rw [if_pos ⟨o5, by rw [o6, o2]⟩]
              unfold JS.len
              rw [hf, if_pos rfl, o2]
              simp only
              rw [o7]
              simp
            have hJl : J'.len T' = (L : Int) := by
              have hf : J'.fault T' = 0 := by unfold JS.fault; rw [if_pos ⟨o5, by rw [o6, o2]⟩]
              unfold JS.len
              rw [hf, if_pos rfl, o2]
            have HC := Lib.hid hcall'
            have HA' := Lib.hid o4
            have HJT := Lib.hid hJt
            have HJS := Lib.hid hJs
            have HJL := Lib.hid hJl
            clear hcall hcall' hr o2 o3 o4 o5 o6 o7 hL hJt hJs hJl HA
            go_wp2_with fail
            refine HC.out.mono ?_
            rintro e w5 ⟨F5, jb5, A5, c5, rfl, hj5, hr5, hu5⟩
            have hb5 := upd_below hu5 HSS.out HFF.out
            have H5 := Lib.hid (show JN B w5 jb5 tb J' T' F5 from ⟨hj5, hb5.2, Nat.le_trans HSS.out hu5.fr.size⟩)
            have HL5 := Lib.hid (HL.out.old hb5.1)
            have HB5 := Lib.hid (HB.out.trans hb5.1)
            have hsame := same16_any A5 A c5 c ls ls _ _ w5 hr5 HL5.out (by rw [← HNL.out]; omega)
            rw [← HNL.out, decide_eq_true rfl] at hsame
            have HSA := Lib.hid hsame
            clear hj5 hr5 hu5 hb5 hsame HC HTT HFF HSS HB HL
            go_wp2_with fail
            refine HSA.out.mono ?_
            rintro e w6 ⟨rfl, hb⟩
            have H6 := Lib.hid (H5.out.below hb)
            have HL6 := Lib.hid (HL5.out.old (Below.up hb H5.out.size))
            have HB6 := Lib.hid (HB5.out.trans (Below.up hb H5.out.size))
            clear hb HSA H5 HL5 HB5
            go_wp2_with fail
            refine (turn_any H6.out.jr).mono ?_
            rw [HJT.out]
            rintro e w7 ⟨rfl, hb⟩
            have H7 := Lib.hid (H6.out.below hb)
            have HL7 := Lib.hid (HL6.out.old (Below.up hb H6.out.size))
            have HB7 := Lib.hid (HB6.out.trans (Below.up hb H6.out.size))
            clear hb H6 HL6 HB6 HJT
            go_wp2_with fail
            refine (jsure_any H7.out.jr).mono ?_
            rw [HJS.out]
            rintro e w8 ⟨rfl, hb⟩
            have H8 := Lib.hid (H7.out.below hb)
            have HL8 := Lib.hid (HL7.out.old (Below.up hb H7.out.size))
            have HB8 := Lib.hid (HB7.out.trans (Below.up hb H7.out.size))
            clear hb H7 HL7 HB7 HJS
            go_wp2_with fail
            refine (jbytes_any H8.out.jr).mono ?_
            rw [HJL.out]
            rintro e w9 ⟨rfl, hb⟩
            have H9 := Lib.hid (H8.out.below hb)
            have HL9 := Lib.hid (HL8.out.old (Below.up hb H8.out.size))
            have HB9 := Lib.hid (HB8.out.trans (Below.up hb H8.out.size))
            clear hb H8 HL8 HB8 HJL
            have hL0 : ((L : Int) == 0) = false := by simp; omega
            go_wp2_with fail
            go_roundw
            case rel => exact ⟨q + 1, F5, T', 1 - a, by omega, by go_num, Lib.hid H9.out.jr.tape, Lib.hid fun k hk => H9.out.from_ k (.inl hk), Lib.hid H9.out.size, HA', HB9, HL9⟩
            case measure => simp [intOf]; omega
          · have : q = m := by omega
            subst this
            go_wp2_with fail
            refine (jlives_true wr).mono ?_
            rintro e w9 ⟨rfl, hb⟩
            have HB9 := Lib.hid (HB.out.trans (Below.up hb HSS.out))
            clear hb
            go_wp2_with fail
            go_ret
            exact ⟨rfl, HB9.out⟩

end Go.Proofs.Ytnkenkdglcmpdaa
