/- Best: the walk. -/
import Derived.Test.YtpbcpocheblbfaaVotQ
namespace Go.Proofs.Ytpbcpocheblbfaa
set_option linter.unusedVariables false
set_option linter.unusedSimpArgs false
open Go.RowKit Go.MapKept

theorem size_set (w : World) (a : Addr) (v : Value) : (w.setCell a v).heap.size = w.heap.size := by simp [World.setCell]
theorem no_iter {w : World} {b mb : Nat} {cs : Array Value} {t : TypeId} {M L : List (Ent One)} (h : Blk w b cs t) (hi : IterV w mb b M L) : False := by
  obtain ⟨es, clock, D, since, seen, c0, _, _, h3, _⟩ := hi
  have := h
  unfold Blk at this
  rw [h3] at this
  cases this
def foldB (M : List (Ent One)) (kind need : Int) (D : List (Ent One)) : Bool × Vt := D.foldl (fun r p => lookB M kind need r p.2.1) (false, zeroV)
def BestPost (w : World) (M : List (Ent One)) (N : Nat) (kind need : Int) (e : Ending) (w' : World) : Prop :=
  ∃ D, M.Perm D ∧ CertPost w (if (foldB M kind need D).1 then certV M (foldB M kind need D).2 N need else zeroV) (if (foldB M kind need D).1 then certL M (foldB M kind need D).2 N need else []) ((foldB M kind need D).1 && certOk M (foldB M kind need D).2 N need) e w'
set_option maxRecDepth 100000 in
set_option maxHeartbeats 8000000 in
theorem best_any (w : World) {bb mb N : Nat} {M : List (Ent One)} (h : BookR w bb mb (N : Int) M) (hN : N ≤ 64) (kind need : Int) :
    Calls Try.prog 13 #[.pointer (some ⟨bb, 0, none⟩), .int .i64 kind, .int .i64 need] w (BestPost w M N kind need) := by
  have H := Lib.hid h
  clear h
  go_enter Try.func13, Try.ntmps13
  go_wp2_with (first | (refine wpList_box_one rfl 24 _ rfl (.pointer (some ⟨bb, 0, none⟩)) rfl rfl ?_; intro b1 w1 HB1 hb1 hbl1 HS1) | (refine wpList_box_one rfl 3 _ rfl (.int .i64 kind) rfl rfl ?_; intro b2 w2 HB2 hb2 hbl2 HS2) | (refine wpList_box_one rfl 3 _ rfl (.int .i64 need) rfl rfl ?_; intro b3 w3 HB3 hb3 hbl3 HS3) | (refine wpList_alloc_big rfl 39 rfl (ccells zeroV (.slice none 0 0)).toArray 37 (by kernel_rfl) ?_; intro rb w4 HRB hb4 hbl4 HS4; have q1 : w4.cell? ⟨b1, 0, none⟩ = some (.pointer (some ⟨bb, 0, none⟩)) := (((hb1.below hbl2).below hbl3).below hbl4).cell 0))
  have h1 := HB1.out
  have h2 := HB2.out
  have h3 := HB3.out
  have h4 := HRB.out
  have s1 := HS1.out
  have s2 := HS2.out
  have s3 := HS3.out
  have s4 := HS4.out
  have hbl := hbl1.trans (Below.up (hbl2.trans (Below.up (hbl3.trans (Below.up hbl4 (by omega))) (by omega))) (by omega))
  have HBK := Lib.hid (H.out.below hbl)
  have K1 := Lib.hid (((hb1.below hbl2).below hbl3).below hbl4)
  have K2 := Lib.hid ((hb2.below hbl3).below hbl4)
  have K3 := Lib.hid (hb3.below hbl4)
  have K4 := Lib.hid hb4
  have HBL := Lib.hid hbl
  have hbw : bb < w.heap.size ∧ mb < w.heap.size := ⟨H.out.blk.lt, H.out.map.lt⟩
  have hnum : Hid (w.heap.size ≤ b1 ∧ b1 < b2 ∧ b2 < b3 ∧ b3 < rb ∧ rb < w4.heap.size) := Lib.hid (by omega)
  clear hb1 hb2 hb3 hb4 hbl1 hbl2 hbl3 hbl4 hbl h1 h2 h3 h4 s1 s2 s3 s4 HB1 HB2 HB3 HRB HS1 HS2 HS3 HS4 H
  refine (none_ok w4 HBK.out).mono ?_
  rintro e w' ⟨rfl, rfl⟩
  go_wp2_with (first | (refine wpList_alloc_big rfl 30 rfl (vcells zeroV).toArray 36 (by kernel_rfl) ?_; intro vb w5 HVB hb5 hbl5 HS5) | (refine wpList_alloc_one rfl 4 rfl (.bool false) (by kernel_rfl) rfl ?_; intro ib w6 HIB hb6 hbl6 HS6; have i0 := hb6.cell 0; have i1 := hb6.free 0; have q1 := ((K1.out.below hbl5).below hbl6).fr (Fr.setCell (fun k => k = ib) w6 ⟨ib, 0, none⟩ (.bool false) rfl) (by have := HVB.out; have := HIB.out; have := HS5.out; have := hnum.out; omega); have q1 := q1.cell 0; have q2 := (((HBK.out.below hbl5).below hbl6).fr (Fr.setCell (fun k => k = ib) w6 ⟨ib, 0, none⟩ (.bool false) rfl) (by have := HVB.out; have := HIB.out; have := HS5.out; have := hnum.out; omega) (by have := HVB.out; have := HIB.out; have := HS5.out; have := hnum.out; omega)); have q3 := q2.blk.cell 1; have q2 := Lib.hid q2.map) | (refine wpList_range_v rfl _ rfl mb rfl M q2.out ?_; intro r w7 HR7 hi7 hbl7 HS7))
  go_frame
  have hn := hnum.out
  have hvb := HVB.out
  have hib := HIB.out
  have hs5 := HS5.out
  have hs6 := HS6.out
  have hs7 := HS7.out
  have hr7 : w6.heap.size = r := by have := HR7.out; rwa [size_set] at this
  have hF := Fr.setCell (fun k => k = ib) w6 ⟨ib, 0, none⟩ (.bool false) rfl
  have lift : ∀ {b : Nat} {cs : Array Value} {t : TypeId}, Blk w4 b cs t → Blk w7 b cs t := fun {b cs t} hb => (((hb.below hbl5).below hbl6).fr hF (by have := hb.lt; omega)).below hbl7
  have HBK7 := Lib.hid ((((HBK.out.below hbl5).below hbl6).fr hF (by omega) (by omega)).below hbl7)
  have HC7 : Hid (Caps w7 b2 b1 b3 ib vb bb kind need (foldB M kind need [])) := Lib.hid ⟨lift K2.out, lift K1.out, lift K3.out, (hb6.set 0 _).below hbl7, ((hb5.below hbl6).fr hF (by omega)).below hbl7, zeroV_ok, by omega, by omega, by omega, by omega, by omega, by omega, by omega⟩
  have HRB := Lib.hid (lift K4.out)
  have HI7 := Lib.hid hi7
  have HBL7 : Hid (Below w.heap.size w w7) := Lib.hid ((Fr.below (HBL.out.trans (Below.up (hbl5.trans (Below.up hbl6 hbl5.size)) HBL.out.size)) hF (fun k hk => by omega)).trans (Below.up hbl7 (by rw [size_set]; omega)))
  have hrr : w.heap.size ≤ b1 ∧ w.heap.size ≤ ib ∧ w.heap.size ≤ vb ∧ w.heap.size ≤ rb ∧ rb < vb ∧ vb < ib ∧ ib < r ∧ bb < w.heap.size ∧ mb < w.heap.size := by omega
  clear hn hvb hib hs5 hs6 hs7 hr7 hF lift K1 K2 K3 K4 HBK HBL hb5 hb6 hbl5 hbl6 hbl7 hi7 i0 i1 q1 q2 q3 HVB HIB HS5 HS6 HR7 HS7 hnum hbw
  have HOK := Lib.hid HBK7.out.ok
  go_loopw [] (fun wr => ∃ (L D : List (Ent One)), Hid (M.Perm (D ++ L)) ∧ Hid (IterV wr mb r M L) ∧ Hid (Below w.heap.size w wr) ∧ Hid (Blk wr rb (ccells zeroV (.slice none 0 0)).toArray 39) ∧ Hid (BookR wr bb mb (N : Int) M) ∧ Hid (Caps wr b2 b1 b3 ib vb bb kind need (foldB M kind need D))) (fun wr => wr.rangeLeft mb r)
  case atStart => exact ⟨M, [], Lib.hid (by simp), HI7, HBL7, HRB, HBK7, HC7⟩
  case round =>
    clear HI7 HBL7 HRB HBK7 HC7
    obtain ⟨L, D, HP, HI, HBL, HRB, HBK, HC⟩ := hrel
    go_wp2_with (refine wpList_next_v rfl _ rfl mb r M L rfl HI.out ?_ ?_)
    · intro hL
      subst hL
      have HP : Hid (M.Perm D) := Lib.hid (by have := HP.out; rwa [List.append_nil] at this)
      obtain ⟨f, hf⟩ : ∃ f, f = foldB M kind need D := ⟨_, rfl⟩
      rw [← hf] at HC
      obtain ⟨fi, fv⟩ := f
      have ci := HC.out.is.cell 0
      cases fi with
      | false =>
        go_wp2_with (first | (refine wpList_val rfl (exec_build0 _ rfl _ built_cert0) ?_) | (refine wpList_store_big rfl 39 _ _ rfl _ rfl (ccells zeroV (.slice none 0 0)) rfl _ _ HRB.out (sizeCert zeroV_ok _) (by rw [ccells_len zeroV_ok]; rfl) (ccells_one _ rfl) ?_; intro w8 hb8 hf8 HS8))
        refine bodyPost_ret (results_ct rfl rfl (var_cert zeroV_ok (range_of_blk hb8))) rfl ?_
        refine ⟨D, HP.out, none, 0, ?_, ?_, ?_, below_fr HBL.out hf8 (by omega)⟩
        · rw [← hf]; rfl
        · rw [← hf]; exact SR.nil _ _
        · intro a ha; cases ha
      | true =>
        have cb := HC.out.book.cell 0
        have cn := HC.out.need.cell 0
        go_wp2_with (first | (refine wpList_val rfl (load_vote HC.out.ok (range_of_blk HC.out.best) rfl rfl) ?_))
        have hcall := cert_any wr HBK.out hN fv HC.out.ok need
        have huo : (certV M fv N need).ok := by unfold certV; split; exact HC.out.ok; exact zeroV_ok
        obtain ⟨u, hu⟩ : ∃ u, u = certV M fv N need := ⟨_, rfl⟩
        obtain ⟨R, hR⟩ : ∃ R, R = certL M fv N need := ⟨_, rfl⟩
        obtain ⟨ok, hok⟩ : ∃ ok, ok = certOk M fv N need := ⟨_, rfl⟩
        rw [← hu, ← hR, ← hok] at hcall
        rw [← hu] at huo
        have HEQ := Lib.hid (show foldB M kind need D = (true, fv) ∧ certV M fv N need = u ∧ certL M fv N need = R ∧ certOk M fv N need = ok from ⟨hf.symm, hu.symm, hR.symm, hok.symm⟩)
        have HU := Lib.hid huo
        clear hf hu hR hok huo
        refine hcall.mono ?_
        rintro e w8 ⟨A, c, rfl, hsr, hA, hbl8⟩
        have HRB8 := Lib.hid (HRB.out.below hbl8)
        have HBL8 := Lib.hid (HBL.out.trans (Below.up hbl8 HBL.out.size))
        have hrl : rb < wr.heap.size := HRB.out.lt
        obtain ⟨n5, hn5⟩ : ∃ n, n = R.length := ⟨_, rfl⟩
        rw [← hn5]
        have HN5 := Lib.hid hn5
        have HSR := Lib.hid hsr
        have HAA := Lib.hid hA
        clear hn5 hsr hA hbl8 cb cn ci hcall
        go_wp2_with (first | (refine wpList_store_big rfl 39 _ _ rfl _ rfl (ccells u (.slice A n5 c)) rfl _ _ HRB8.out (sizeCert HU.out _) (by rw [ccells_len HU.out]; rfl) (ccells_one _ rfl) ?_; intro w9 hb9 hf9 HS9))
        refine bodyPost_ret (results_ct rfl rfl (var_cert HU.out (range_of_blk hb9))) rfl ?_
        obtain ⟨e1, e2, e3, e4⟩ := HEQ.out
        refine ⟨D, HP.out, A, c, ?_, ?_, ?_, below_fr HBL8.out hf9 (by omega)⟩
        · rw [e1]
          simp only [if_true, Bool.true_and]
          rw [e2, e3, e4, ← HN5.out]
          rfl
        · rw [e1]
          simp only [if_true]
          rw [e3]
          intro i s hs
          obtain ⟨b, off, hA, hr⟩ := HSR.out i s hs
          have hle := HAA.out _ hA (by have := (List.getElem?_eq_some_iff.1 hs).1; omega)
          exact ⟨b, off, hA, range_fr hr hf9 (by simp only at hle; omega)⟩
        · rw [e1]
          simp only [if_true]
          rw [e3]
          intro a ha hl
          have := HAA.out a ha hl
          have := HBL.out.size
          omega
    · intro ka kb v2 t2 L' w3 hperm hi3 hf3 HS3 HEN
      have hmem : ((ka, kb), v2, t2) ∈ M := HP.out.mem_iff.2 (List.mem_append_right _ (hperm.mem_iff.2 (List.mem_cons_self ..)))
      have HOKE : Hid (One.ok (v2, t2)) := Lib.hid (HOK.out _ hmem)
      have HPM : Hid (M.Perm ((D ++ [((ka, kb), v2, t2)]) ++ L')) := Lib.hid (by
        rw [List.append_assoc]
        exact HP.out.trans (hperm.append_left D))
      have hlb : bb < wr.heap.size ∧ mb < wr.heap.size ∧ rb < wr.heap.size := ⟨HBK.out.blk.lt, HBK.out.map.lt, HRB.out.lt⟩
      have hcl : b1 < wr.heap.size ∧ b2 < wr.heap.size ∧ b3 < wr.heap.size ∧ ib < wr.heap.size ∧ vb < wr.heap.size := ⟨HC.out.book.lt, HC.out.kind.lt, HC.out.need.lt, HC.out.is.lt, HC.out.best.lt⟩
      have HCK := Lib.hid (show b1 ≠ r ∧ b2 ≠ r ∧ b3 ≠ r ∧ rb ≠ r ∧ r < w3.heap.size from ⟨fun e => by have := HC.out.book; rw [e] at this; exact no_iter this HI.out, fun e => by have := HC.out.kind; rw [e] at this; exact no_iter this HI.out, fun e => by have := HC.out.need; rw [e] at this; exact no_iter this HI.out, by omega, hi3.lt⟩)
      have hck := HCK.out
      have HC3 : Hid (Caps w3 b2 b1 b3 ib vb bb kind need (foldB M kind need D)) := Lib.hid ⟨HC.out.kind.fr hf3 hck.2.1, HC.out.book.fr hf3 hck.1, HC.out.need.fr hf3 hck.2.2.1, HC.out.is.fr hf3 (by omega), HC.out.best.fr hf3 (by omega), HC.out.ok, HC.out.k1, HC.out.k2, HC.out.p1, HC.out.p2, HC.out.n1, HC.out.n2, HC.out.iv⟩
      have HBK3 := Lib.hid (HBK.out.fr hf3 (by omega) (by omega))
      have HRB3 := Lib.hid (HRB.out.fr hf3 (by omega))
      have HBL3 := Lib.hid (Fr.below HBL.out hf3 (fun k hk => by omega))
      have HI3 := Lib.hid hi3
      have HLL : Hid (L'.length < wr.rangeLeft mb r) := Lib.hid (by rw [HI.out.left_eq, hperm.length_eq]; simp)
      have hs3 : w3.heap.size = wr.heap.size := HS3.out
      clear hmem hperm hi3 hf3 HP HI HBL HRB HBK HC hck HS3
      go_wp2_with (first | (refine wpList_val rfl (exec_entry rfl rfl HEN.out) ?_) | (refine wpList_alloc_big rfl 62 rfl (ocells zeroX).toArray 52 (by kernel_rfl) ?_; intro ob w4 HO hb4 hbl4 HS4) | (refine wpList_store_big rfl 62 _ _ rfl _ rfl (ocells (v2, t2)) rfl _ _ hb4 (sizeOne HOKE.out) (by rw [ocells_len HOKE.out]; rfl) (ocells_one _) ?_; intro w5 hb5 hf5 HS5) | (refine wpList_val rfl (load_vote HOKE.out.vote (range_part (range_of_blk hb5)).1 rfl rfl) ?_))
      have ho := HO.out
      have hb35 : Below w3.heap.size w3 w5 := below_fr hbl4 hf5 (by omega)
      have HC5 := Lib.hid (HC3.out.below hb35)
      have HBK5 := Lib.hid (HBK3.out.below hb35)
      have HRB5 := Lib.hid (HRB3.out.below hb35)
      have HBL5 := Lib.hid (HBL3.out.trans (Below.up hb35 HBL3.out.size))
      have hrr3 := HCK.out.2.2.2.2
      have HI5 := Lib.hid ((HI3.out.below hbl4).fr hf5 (by omega) (by omega))
      clear hb4 hbl4 hb5 hf5 HC3 HBK3 HRB3 HBL3 HI3 hb35 HEN
      refine (look_any w5 HC5.out HBK5.out (by omega) v2 HOKE.out.vote).mono ?_
      rintro e w6 ⟨rfl, hc6, hbk6, hf6⟩
      have hfold : lookB M kind need (foldB M kind need D) v2 = foldB M kind need (D ++ [((ka, kb), v2, t2)]) := by
        unfold foldB
        rw [List.foldl_append]
        rfl
      rw [hfold] at hc6
      have HC6 := Lib.hid hc6
      have HBK6 := Lib.hid hbk6
      have HRB6 := Lib.hid (HRB5.out.fr hf6 (by omega))
      have HBL6 := Lib.hid (Fr.below HBL5.out hf6 (fun k hk => by omega))
      have HI6 := Lib.hid (HI5.out.fr hf6 (by omega) (by omega))
      clear hc6 hbk6 hf6 hfold HC5 HBK5 HRB5 HBL5 HI5
      go_wp2_with fail
      try go_frame
      go_roundw
      case rel => exact ⟨L', D ++ [((ka, kb), v2, t2)], HPM, HI6, HBL6, HRB6, HBK6, HC6⟩
      case measure => rw [HI6.out.left_eq]; exact HLL.out

end Go.Proofs.Ytpbcpocheblbfaa
