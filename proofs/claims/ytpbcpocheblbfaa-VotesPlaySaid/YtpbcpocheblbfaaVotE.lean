/- The walks of the votes' book: Good, New, Of. -/
import Derived.Test.YtpbcpocheblbfaaVotD
namespace Go.Proofs.Ytpbcpocheblbfaa
set_option linter.unusedVariables false
set_option linter.unusedSimpArgs false
open Go.RowKit Go.MapKept

def goodN (n : Int) : Bool := decide (4 ≤ n) && decide (n ≤ 64) && decide (n % 3 = 1)
theorem qgood_any (n : Int) (w : World) : Calls Try.prog 21 #[.int .i64 n] w fun e w' => e = .returned (.bool (goodN n)) ∧ w = w' := by
  obtain ⟨b, hb⟩ : ∃ b, b = goodN n := ⟨_, rfl⟩
  rw [← hb]
  unfold goodN at hb
  by_cases h1 : 4 ≤ n
  · by_cases h2 : n ≤ 64
    · obtain ⟨q, hq⟩ : ∃ q, q = n % 3 := ⟨_, rfl⟩
      rw [← hq] at hb
      have hq1 : 0 ≤ q ∧ q < 3 := by omega
      by_cases h3 : q = 1
      · have hb' : b = true := by rw [hb]; simp [h1, h2, h3]
        subst hb'
        subst h3
        clear hb
        go_enter Try.func21, Try.ntmps21
        go_wp2
        go_ret
        exact ⟨rfl, rfl⟩
      · have hb' : b = false := by rw [hb]; simp [h3]
        subst hb'
        have h4 : (q == 1) = false := by simp [h3]
        clear hb
        go_enter Try.func21, Try.ntmps21
        go_wp2
        rw [← hq] at *
        go_ret
        exact ⟨by simp [h3], rfl⟩
    · have hb' : b = false := by rw [hb]; simp [h2]
      subst hb'
      clear hb
      go_enter Try.func21, Try.ntmps21
      go_wp2
      go_ret
      exact ⟨rfl, rfl⟩
  · have hb' : b = false := by rw [hb]; simp [h1]
    subst hb'
    clear hb
    go_enter Try.func21, Try.ntmps21
    go_wp2
    go_ret
    exact ⟨rfl, rfl⟩
theorem rgood_any (n : Int) (w : World) : Calls Try.prog 25 #[.int .i64 n] w fun e w' => e = .returned (.bool (goodN n)) ∧ w = w' := by
  obtain ⟨b, hb⟩ : ∃ b, b = goodN n := ⟨_, rfl⟩
  rw [← hb]
  unfold goodN at hb
  by_cases h1 : 4 ≤ n
  · by_cases h2 : n ≤ 64
    · obtain ⟨q, hq⟩ : ∃ q, q = n % 3 := ⟨_, rfl⟩
      rw [← hq] at hb
      have hq1 : 0 ≤ q ∧ q < 3 := by omega
      by_cases h3 : q = 1
      · have hb' : b = true := by rw [hb]; simp [h1, h2, h3]
        subst hb'
        subst h3
        clear hb
        go_enter Try.func25, Try.ntmps25
        go_wp2
        go_ret
        exact ⟨rfl, rfl⟩
      · have hb' : b = false := by rw [hb]; simp [h3]
        subst hb'
        have h4 : (q == 1) = false := by simp [h3]
        clear hb
        go_enter Try.func25, Try.ntmps25
        go_wp2
        rw [← hq] at *
        go_ret
        exact ⟨by simp [h3], rfl⟩
    · have hb' : b = false := by rw [hb]; simp [h2]
      subst hb'
      clear hb
      go_enter Try.func25, Try.ntmps25
      go_wp2
      go_ret
      exact ⟨rfl, rfl⟩
  · have hb' : b = false := by rw [hb]; simp [h1]
    subst hb'
    clear hb
    go_enter Try.func25, Try.ntmps25
    go_wp2
    go_ret
    exact ⟨rfl, rfl⟩
theorem MapV.made (w : World) (ov : One → Value) : MapV ov (w.alloc (.map #[] 0)) w.heap.size [] := by
  refine ⟨#[], 0, fun _ => ((0, 0), zeroX), heap_alloc_new w _, stamped_empty 0, rfl, fun e he => by simp at he, fun p hp => by cases hp⟩
theorem vnew_ok (n : Int) (w : World) (hg : goodN n = true) : Calls Try.prog 7 #[.int .i64 n] w fun e w' => ∃ bb mb, e = .returned (.pointer (some ⟨bb, 0, none⟩)) ∧ BookR w' bb mb n [] ∧ w.heap.size ≤ bb ∧ w.heap.size ≤ mb ∧ Below w.heap.size w w' := by
  have hmm := @run_makeMap Try.prog
  go_enter Try.func7, Try.ntmps7
  go_wp2_with fail
  refine (qgood_any n w).mono ?_
  rw [hg]
  rintro e w' ⟨rfl, rfl⟩
  go_wp2_with fail
  go_ret
  refine ⟨w.heap.size + 1, w.heap.size, by simp, ⟨?_, ?_, (fun p hp => (by cases hp)), (by simp)⟩, by omega, by omega, ?_⟩
  · have := Blk.new (w.alloc (.map #[] 0)) #[.int .i64 n, .map (some w.heap.size)] 55
    simpa using this
  · exact (MapV.made w oval).below ((Below.refl _ _).alloc (Nat.le_refl _) _)
  · exact ((Below.refl _ _).alloc (Nat.le_refl _) _).alloc (by simp) _
theorem vnew_no (n : Int) (w : World) (hg : goodN n = false) : Calls Try.prog 7 #[.int .i64 n] w fun e w' => e = .returned (.pointer none) ∧ w = w' := by
  go_enter Try.func7, Try.ntmps7
  go_wp2_with fail
  refine (qgood_any n w).mono ?_
  rw [hg]
  rintro e w' ⟨rfl, rfl⟩
  go_wp2_with fail
  go_ret
  exact ⟨rfl, rfl⟩

end Go.Proofs.Ytpbcpocheblbfaa
