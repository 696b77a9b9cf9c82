/- The walks of the votes' book: none, New, Count. -/
import Derived.Test.YtpbcpocheblbfaaVotC
namespace Go.Proofs.Ytpbcpocheblbfaa
set_option linter.unusedVariables false
set_option linter.unusedSimpArgs false
open Go.RowKit Go.MapKept

/-- Block bb is a book of N nodes, its map block mb holds M. -/
structure BookR (w : World) (bb mb : Nat) (N : Int) (M : List (Ent One)) : Prop where
  blk : Blk w bb #[.int .i64 N, .map (some mb)] 55
  map : MapV oval w mb M
  ok : ∀ p ∈ M, p.2.ok
  small : M.length ≤ 1000
theorem BookR.fr {F : Nat → Prop} {w w' : World} {bb mb : Nat} {N : Int} {M : List (Ent One)} (h : BookR w bb mb N M) (hf : Fr F w w') (h1 : ¬ F bb) (h2 : ¬ F mb) : BookR w' bb mb N M := ⟨h.blk.fr hf h1, h.map.fr hf h2, h.ok, h.small⟩
theorem BookR.below {w w' : World} {bb mb : Nat} {N : Int} {M : List (Ent One)} (h : BookR w bb mb N M) (hb : Below w.heap.size w w') : BookR w' bb mb N M := ⟨h.blk.below hb, h.map.below hb, h.ok, h.small⟩
theorem Below.up {B C : Nat} {w w' : World} (h : Below C w w') (hB : B ≤ C) : Below B w w' := Below.mono h hB
theorem equal_nil (m : Option Nat) (w : World) : (Op.equal 53 (.map m) (.map none)).run Try.prog w = .ok m.isNone w := by
  show (Op.equalIn (9999 + 1) 53 (.map m) (.map none)).run Try.prog w = .ok m.isNone w
  unfold Op.equalIn
  cases m with
  | none => simp only [Sem.run_bind, run_underlying Try.underlying53, Result.andThen_ok, Sem.run_pure, Option.isNone]
  | some b => simp only [Sem.run_bind, run_underlying Try.underlying53, Result.andThen_ok, Sem.run_pure, Option.isNone]
theorem map_nil (m : Option Nat) (w : World) : (binOp .eql 53 (.map m) (.map none)).run Try.prog w = .ok (.bool m.isNone) w := by
  unfold binOp
  simp only [Sem.run_bind, equal_nil, Result.andThen_ok, Sem.run_pure]
theorem none_ok (w : World) {bb mb : Nat} {N : Int} {M : List (Ent One)} (h : BookR w bb mb N M) : Calls Try.prog 22 #[.pointer (some ⟨bb, 0, none⟩)] w fun e w' => e = .returned (.bool false) ∧ w = w' := by
  have c1 : w.cell? ⟨bb, 1, none⟩ = some (.map (some mb)) := h.blk.cell 1
  have hm := map_nil (some mb)
  clear h
  go_enter Try.func22, Try.ntmps22
  go_wp2
  go_ret
  exact ⟨rfl, rfl⟩
def NoBook (w : World) (p : Option Addr) : Prop := p = none ∨ ∃ bb, p = some ⟨bb, 0, none⟩ ∧ w.cell? ⟨bb, 1, none⟩ = some (.map none)
theorem none_no (p : Option Addr) (w : World) (h : NoBook w p) : Calls Try.prog 22 #[.pointer p] w fun e w' => e = .returned (.bool true) ∧ w = w' := by
  have hm := map_nil none
  rcases h with rfl | ⟨bb, rfl, c1⟩
  all_goals
    go_enter Try.func22, Try.ntmps22
    go_wp2
    go_ret
    exact ⟨rfl, rfl⟩
def countM (M : List (Ent One)) (v : Vt) : Nat := M.countP fun p => decide (p.2.1 = v)
set_option maxRecDepth 100000 in
set_option maxHeartbeats 4000000 in
theorem count_any (w : World) {bb mb : Nat} {N : Int} {M : List (Ent One)} (h : BookR w bb mb N M) (v : Vt) (hv : v.ok) :
    Calls Try.prog 11 #[.pointer (some ⟨bb, 0, none⟩), vval v] w fun e w' => e = .returned (.int .i64 (countM M v : Int)) ∧ Below w.heap.size w w' := by
  have H := Lib.hid h
  have HV := Lib.hid hv
  clear h hv
  go_enter Try.func11, Try.ntmps11
  go_wp2_with (refine wpList_box_big rfl 30 _ rfl _ rfl ?_; intro vb w1 HVB hb1 hbl1 HS1)
  have hH1 := H.out.below hbl1
  have HBL := Lib.hid hbl1
  refine (none_ok w1 hH1).mono ?_
  rintro e w' ⟨rfl, rfl⟩
  have c1 : w1.cell? ⟨bb, 1, none⟩ = some (.map (some mb)) := hH1.blk.cell 1
  have HH1 := Lib.hid hH1
  have HB1 := Lib.hid hb1
  have hvl : vb < w1.heap.size := hb1.lt
  clear hH1 hb1 hbl1 H
  go_wp2_with (refine wpList_range_v rfl _ rfl mb rfl M HH1.out.map ?_; intro r w2 HR hi2 hbl2 HS2)
  go_frame
  have HI := Lib.hid hi2
  have HBL2 := Lib.hid (HBL.out.trans (Below.up hbl2 HBL.out.size))
  have HB2 := Lib.hid (HB1.out.below hbl2)
  have hrb : w.heap.size < r := by have := HVB.out; have := HR.out; omega
  have HOK := Lib.hid HH1.out.ok
  have HSM := Lib.hid HH1.out.small
  clear hi2 hbl2 c1 HH1 HB1 HBL HS1 HS2 HR
  go_loopw [4] (fun nv wr => ∃ (L D : List (Ent One)), nv = .int .i64 (countM D v : Int) ∧ Hid (M.Perm (D ++ L)) ∧ Hid (IterV wr mb r M L) ∧ Hid (Below w.heap.size w wr) ∧ Hid (Blk wr vb (vcells v).toArray 30)) (fun _ wr => wr.rangeLeft mb r)
  case atStart => exact ⟨M, [], rfl, Lib.hid (by simp), HI, HBL2, HB2⟩
  case round =>
    clear HI HBL2 HB2
    obtain ⟨L, D, rfl, HP, HI, HBL, HB⟩ := hrel
    go_wp2_with (refine wpList_next_v rfl _ rfl mb r M L rfl HI.out ?_ ?_)
    · intro hL
      subst hL
      have hc : countM M v = countM D v := by
        have := HP.out
        rw [List.append_nil] at this
        exact this.countP_eq _
      go_wp2_with fail
      go_ret
      rw [hc]
      exact ⟨rfl, HBL.out⟩
    · intro ka kb v2 t2 L' w3 hperm hi3 hf3 HS3 HEN
      have hmem : ((ka, kb), v2, t2) ∈ M := HP.out.mem_iff.2 (List.mem_append_right _ (hperm.mem_iff.2 (List.mem_cons_self ..)))
      have hok := HOK.out _ hmem
      have HPM : Hid (M.Perm (((ka, kb), v2, t2) :: D ++ L')) := Lib.hid (HP.out.trans ((hperm.append_left D).trans List.perm_middle))
      have hlen : countM D v ≤ 1000 := by
        have h1 : countM D v ≤ D.length := List.countP_le_length
        have h2 := HP.out.length_eq
        rw [List.length_append] at h2
        have := HSM.out
        omega
      have HB3 := Lib.hid (HB.out.fr hf3 (by have := HVB.out; omega))
      have hbl3 : Below w.heap.size w w3 := Fr.below HBL.out hf3 (fun k hk => by omega)
      have HI3 := Lib.hid hi3
      have HBL3 := Lib.hid hbl3
      have HOKE : Hid (One.ok (v2, t2)) := Lib.hid hok
      have hvl3 : vb < w3.heap.size := HB3.out.lt
      have hml3 : mb < w3.heap.size := hi3.mapv.lt
      have hrl3 : r < w3.heap.size := hi3.lt
      have HLL : Hid (L'.length < wr.rangeLeft mb r) := Lib.hid (by rw [HI.out.left_eq, hperm.length_eq]; simp)
      clear hperm hi3 hf3 hmem hok hbl3 HP HI HBL HB
      by_cases hv2 : v2 = v
      · have hd : decide (v2 = v) = true := decide_eq_true hv2
        have hcc : countM (((ka, kb), v2, t2) :: D) v = countM D v + 1 := by
          unfold countM
          rw [List.countP_cons]
          simp [hv2]
        have HCC := Lib.hid hcc
        have HD2 := Lib.hid hv2
        clear hcc hv2
        go_wp2_with (first | (refine wpList_val rfl (exec_entry rfl rfl HEN.out) ?_) | (refine wpList_alloc_big rfl 62 rfl (ocells zeroX).toArray 52 (by kernel_rfl) ?_; intro ob w4 HO hb4 hbl4 HS4) | (refine wpList_store_big rfl 62 _ _ rfl _ rfl (ocells (v2, t2)) rfl _ _ hb4 (sizeOne HOKE.out) (by rw [ocells_len HOKE.out]; rfl) (ocells_one _) ?_; intro w5 hb5 hf5 HS5) | (refine wpList_val rfl (load_vote HOKE.out.vote (range_part (range_of_blk hb5)).1 rfl rfl) ?_) | (refine wpList_val rfl (load_vote HV.out (range_of_blk ((HB3.out.below hbl4).fr hf5 (by have := HO.out; omega))) rfl rfl) ?_) | (refine wpList_val rfl (vote_eql _ HOKE.out.vote HV.out rfl rfl rfl) ?_))
        have HL5 := Lib.hid (((HBL3.out.trans (Below.up hbl4 HBL3.out.size))).trans (show Below w.heap.size w4 w5 from ⟨hf5.os, hf5.tape, hf5.output, hf5.size, fun k hk => hf5.block k (by have := hbl4.size; have := HBL3.out.size; omega) (by have := HBL3.out.size; have := HO.out; omega)⟩))
        have HB5 := Lib.hid ((HB3.out.below hbl4).fr hf5 (by have := HO.out; omega))
        have HI5 := Lib.hid ((HI3.out.below hbl4).fr hf5 (by have := HO.out; omega) (by have := HO.out; omega))
        clear hb4 hbl4 hb5 hf5
        go_wp2_with fail
        try go_frame
        go_roundw
        case rel => exact ⟨L', ((ka, kb), v2, t2) :: D, by rw [HCC.out]; go_num, HPM, HI5, HL5, HB5⟩
        case measure => rw [HI5.out.left_eq]; exact HLL.out
      · have hd : decide (v2 = v) = false := decide_eq_false hv2
        have hcc : countM (((ka, kb), v2, t2) :: D) v = countM D v := by
          unfold countM
          rw [List.countP_cons]
          simp [hv2]
        have HCC := Lib.hid hcc
        have HD2 := Lib.hid hv2
        clear hcc hv2
        go_wp2_with (first | (refine wpList_val rfl (exec_entry rfl rfl HEN.out) ?_) | (refine wpList_alloc_big rfl 62 rfl (ocells zeroX).toArray 52 (by kernel_rfl) ?_; intro ob w4 HO hb4 hbl4 HS4) | (refine wpList_store_big rfl 62 _ _ rfl _ rfl (ocells (v2, t2)) rfl _ _ hb4 (sizeOne HOKE.out) (by rw [ocells_len HOKE.out]; rfl) (ocells_one _) ?_; intro w5 hb5 hf5 HS5) | (refine wpList_val rfl (load_vote HOKE.out.vote (range_part (range_of_blk hb5)).1 rfl rfl) ?_) | (refine wpList_val rfl (load_vote HV.out (range_of_blk ((HB3.out.below hbl4).fr hf5 (by have := HO.out; omega))) rfl rfl) ?_) | (refine wpList_val rfl (vote_eql _ HOKE.out.vote HV.out rfl rfl rfl) ?_))
        have HL5 := Lib.hid (((HBL3.out.trans (Below.up hbl4 HBL3.out.size))).trans (show Below w.heap.size w4 w5 from ⟨hf5.os, hf5.tape, hf5.output, hf5.size, fun k hk => hf5.block k (by have := hbl4.size; have := HBL3.out.size; omega) (by have := HBL3.out.size; have := HO.out; omega)⟩))
        have HB5 := Lib.hid ((HB3.out.below hbl4).fr hf5 (by have := HO.out; omega))
        have HI5 := Lib.hid ((HI3.out.below hbl4).fr hf5 (by have := HO.out; omega) (by have := HO.out; omega))
        clear hb4 hbl4 hb5 hf5
        go_wp2_with fail
        try go_frame
        go_roundw
        case rel => exact ⟨L', ((ka, kb), v2, t2) :: D, by rw [HCC.out], HPM, HI5, HL5, HB5⟩
        case measure => rw [HI5.out.left_eq]; exact HLL.out

end Go.Proofs.Ytpbcpocheblbfaa
