/- The walk of the journal's Lay. -/
import Derived.Test.YtnkenkdglcmpdaaJouO
namespace Go.Proofs.Ytnkenkdglcmpdaa
set_option linter.unusedVariables false
set_option linter.unusedSimpArgs false
open Go.RowKit

def long (ls : List (List UInt8)) : Bool := ls.any fun l => decide (4194304 < l.length)
def JS.lay (J : JS) (T : TS) (ls : List (List UInt8)) : Int × TS × JS :=
  if J.fault T ≠ 0 then (J.fault T, T, J)
  else if long ls = true then (3, T, J)
  else if 1099511627776 ≤ J.turn then (2, T, J)
  else if (layN T (1 - J.area) J.turn ls).2.1 = 0 then (0, (layN T (1 - J.area) J.turn ls).2.2, { J with area := 1 - J.area, turn := J.turn + 1, bytes := (layN T (1 - J.area) J.turn ls).1 })
  else if (layN T (1 - J.area) J.turn ls).2.1 = 151 then
    (if ((layN T (1 - J.area) J.turn ls).2.2.clear (1 - J.area)).1 ≠ 0 then ((layN T (1 - J.area) J.turn ls).2.2.clear (1 - J.area)).1 else 151, ((layN T (1 - J.area) J.turn ls).2.2.clear (1 - J.area)).2, J)
  else ((layN T (1 - J.area) J.turn ls).2.1, (layN T (1 - J.area) J.turn ls).2.2, J)
structure JS.ok (J : JS) : Prop where
  area : J.area = 0 ∨ J.area = 1
  turn : 0 ≤ J.turn ∧ J.turn ≤ 1099511627776
theorem upd_FJ {w w' : World} {F F' : Nat → Prop} {jb : Nat} (hu : Upd w w' F F') : Upd w w' (FJ F jb) (FJ F' jb) :=
  ⟨hu.fr.mono fun i hi => .inl (.inl hi), fun k hk => hk.elim (fun h => (hu.new k h).elim (fun h => .inl (.inl h)) .inr) (fun h => .inl (.inr h))⟩
variable {w : World} {jb tb : Nat} {J : JS} {T : TS} {F : Nat → Prop}
set_option maxRecDepth 100000 in
set_option maxHeartbeats 8000000 in
theorem jlay_any (A : Option Addr) (c : Nat) (ls : List (List UInt8)) (h : JR w jb tb J T F) (hr : RLs w (FJ F jb) A ls) (hl : ls.length ≤ 2000000000) (hJ : J.ok) :
    Calls Try.prog 49 #[.pointer (some ⟨jb, 0, none⟩), .slice A ls.length c] w (DoesJ w jb tb F (J.lay T ls)) := by
  obtain ⟨r, hrr⟩ : ∃ r, r = J.lay T ls := ⟨_, rfl⟩
  rw [← hrr]
  unfold JS.lay at hrr
  obtain ⟨N, hN⟩ : ∃ N, N = ls.length := ⟨_, rfl⟩
  rw [← hN] at hl ⊢
  have HN := Lib.hid hN
  have HR := Lib.hid hrr
  have HL := Lib.hid hr
  have HJ := Lib.hid hJ
  clear hrr hr hJ hN
  go_enter Try.func49, Try.ntmps49
  go_wp2_with fail
  refine (jfault_any h).mono ?_
  rintro e w1 ⟨rfl, hb⟩
  have h1 := h.below hb
  have HB := Lib.hid hb
  have HL := Lib.hid (HL.out.upd (Upd.of_below hb))
  obtain ⟨v, hv⟩ : ∃ v, v = J.fault T := ⟨_, rfl⟩
  have hr := HR.out
  rw [← hv] at hr ⊢
  clear hv hb h HR
  by_cases h0 : v = 0
  · subst h0
    rw [if_neg (by simp)] at hr
    have HR := Lib.hid hr
    clear hr
    go_wp2_with fail
    go_loopw [19] (fun i wr => ∃ k : Nat, k ≤ N ∧ i = .int .i64 (k : Int) ∧ Hid (long (ls.take k) = false) ∧ Hid (w1 = wr)) (fun i _ => N - (intOf i).toNat)
    case atStart => exact ⟨0, Nat.zero_le _, rfl, Lib.hid (by simp [long]), Lib.hid rfl⟩
    case round =>
      obtain ⟨k, hk, rfl, HQ, HW⟩ := hrel
      have hw := HW.out
      subst hw
      clear HW
      by_cases hlt : k < N
      · obtain ⟨l, hl'⟩ : ∃ l, ls[k]? = some l := ⟨_, List.getElem?_eq_getElem (by rw [← HN.out]; exact hlt)⟩
        obtain ⟨b, off, cc, hA, hbl, hX, hcell, A1, n1, rfl, hn1, hrb, hX1⟩ := HL.out k l hl'
        subst hA
        obtain ⟨m, hm⟩ : ∃ m, m = l.length := ⟨_, rfl⟩
        rw [← hm] at hcell hn1
        have HM := Lib.hid hm
        have HL' := Lib.hid hl'
        clear hm hl' hX1 hrb
        by_cases hlong : 4194304 < m
        · have hlg : long ls = true := by
            unfold long
            rw [List.any_eq_true]
            exact ⟨l, List.mem_of_getElem? HL'.out, by rw [← HM.out]; simp; exact hlong⟩
          have hr := HR.out
          rw [if_pos hlg] at hr
          subst hr
          go_wp2_with fail
          go_ret
          exact ⟨rfl, F, h1, Upd.of_below HB.out⟩
        · go_wp2_with fail
          go_roundw
          case rel =>
            refine ⟨k + 1, hlt, by go_num, Lib.hid ?_, Lib.hid (by trivial)⟩
            rw [take_snoc ls k l HL'.out]
            have := HQ.out
            unfold long at this ⊢
            rw [List.any_append, this]
            simp
            have := HM.out
            omega
          case measure => simp [intOf]; omega
      · have hkN : k = N := by omega
        subst hkN
        have hlg := HQ.out
        rw [HN.out, List.take_length] at hlg
        have hr := HR.out
        rw [if_neg (by rw [hlg]; simp)] at hr
        have hs : ∀ l ∈ ls, l.length ≤ 4194304 := fun l hl' => by
          unfold long at hlg
          have := List.any_eq_false.1 hlg l hl'
          simp at this
          omega
        have HS := Lib.hid hs
        clear HR HQ hlg hs
        have c2 := h1.c2
        have c1 := h1.c1
        have c0 := h1.c0
        obtain ⟨hja, hjt⟩ := HJ.out
        obtain ⟨jt, hjt'⟩ : ∃ jt, jt = J.turn := ⟨_, rfl⟩
        obtain ⟨ja, hja'⟩ : ∃ ja, ja = J.area := ⟨_, rfl⟩
        rw [← hjt'] at hjt
        rw [← hja'] at hja
        rw [← hja', ← hjt'] at hr
        rw [← hjt'] at c2
        rw [← hja'] at c1
        obtain ⟨hjt0, hjt1⟩ := hjt
        by_cases hmax : 1099511627776 ≤ jt
        · rw [if_pos hmax] at hr
          subst hr
          go_wp2_with fail
          go_ret
          exact ⟨rfl, F, h1, Upd.of_below HB.out⟩
        · rw [if_neg hmax] at hr
          have hmax' : jt < 1099511627776 := by omega
          have HR := Lib.hid hr
          have HJT := Lib.hid hjt'
          have HJA := Lib.hid hja'
          have hja0 : 0 ≤ ja ∧ ja ≤ 1 := by omega
          have hja01 := hja0.1
          have hja02 := hja0.2
          clear hr hjt' hja' hja0
          go_wp2_with fail
          have hcall := lay_any (1 - ja) A c ls h1 (HL.out.mono fun k _ h => .inl h) (by rw [← HN.out]; exact hl) HS.out ⟨by rw [← HJT.out]; omega, by rw [← HJT.out]; omega⟩
          rw [← HN.out, ← HJT.out] at hcall
          obtain ⟨⟨n9, e9, T9⟩, hq⟩ : ∃ q, q = layN T (1 - ja) jt ls := ⟨_, rfl⟩
          have hr := HR.out
          rw [← hq] at hr hcall
          have HR := Lib.hid hr
          clear hr hq
          refine hcall.mono ?_
          clear hcall
          rintro e w2 ⟨rfl, F2, h2, u2⟩
          have H2 := Lib.hid h2
          have U2 := Lib.hid ((Upd.of_below HB.out).trans (upd_FJ (jb := jb) u2))
          have d0 := h2.c0
          have d1 := h2.c1
          have d2 := h2.c2
          rw [← HJT.out] at d2
          have d3 := h2.c3
          have e1 := h2.blk.free 1
          have e2 := h2.blk.free 2
          have e3 := h2.blk.free 3
          clear u2 h2 c0 c1 c2 h1
          by_cases he0 : e9 = 0
          · subst he0
            have hr := HR.out
            rw [if_pos rfl] at hr
            subst hr
            go_wp2_with fail
            go_ret
            obtain ⟨k1, v1⟩ := H2.out.set (J' := { J with area := 1 - ja }) 1 (.int .i64 (1 - ja)) rfl
            obtain ⟨k2, v2⟩ := k1.set (J' := { J with area := 1 - ja, bytes := n9 }) 3 (.int .i64 n9) rfl
            obtain ⟨k3, v3⟩ := k2.set (J' := { J with area := 1 - ja, turn := jt + 1, bytes := n9 }) 2 (.int .i64 (jt + 1)) rfl
            exact ⟨rfl, F2, k3, ((U2.out.trans v1).trans v2).trans v3⟩
          · have hr := HR.out
            rw [if_neg he0] at hr
            have HR := Lib.hid hr
            clear hr
            have he0' : (e9 == 0) = false := by simp [he0]
            by_cases he1 : e9 = 151
            · subst he1
              have hr := HR.out
              rw [if_pos rfl] at hr
              have HR := Lib.hid hr
              clear hr
              go_wp2_with fail
              refine (clear_any tb (1 - ja) T9 F2 _ H2.out.tape).mono ?_
              obtain ⟨⟨p, T8⟩, hp⟩ : ∃ p, p = T9.clear (1 - ja) := ⟨_, rfl⟩
              have hr := HR.out
              rw [← hp] at hr ⊢
              rintro e w3 ⟨rfl, F3, ht, hu⟩
              obtain ⟨h3, u3⟩ := H2.out.upd ht hu
              have U3 := Lib.hid (U2.out.trans u3)
              have H3 := Lib.hid h3
              clear HR hp ht hu h3 u3
              by_cases hp0 : p = 0
              · subst hp0
                rw [if_neg (by simp)] at hr
                subst hr
                go_wp2_with fail
                go_ret
                exact ⟨rfl, F3, H3.out, U3.out⟩
              · simp only at hr
                rw [if_pos hp0] at hr
                subst hr
                have hp0' : (p == 0) = false := by simp [hp0]
                go_wp2_with fail
                go_ret
                exact ⟨rfl, F3, H3.out, U3.out⟩
            · have hr := HR.out
              rw [if_neg he1] at hr
              subst hr
              have he1' : (e9 == 151) = false := by simp [he1]
              go_wp2_with fail
              go_ret
              exact ⟨rfl, F2, H2.out, U2.out⟩
  · rw [if_pos h0] at hr
    subst hr
    have h0' : (v == 0) = false := by simp [h0]
    go_wp2_with fail
    go_ret
    exact ⟨rfl, F, h1, Upd.of_below HB.out⟩

end Go.Proofs.Ytnkenkdglcmpdaa
