/- Walks over package freel: which rings are sound, the places, Take, Give, Back. -/
import Derived.Test.YtpgighhnhidpcaaSlWords
import Derived.LoopTactic
import Derived.Outline
import Derived.RegionTactic
namespace Go.Proofs.Ytpgighhnhidpcaa.My
open Go.RowKit

/-- What makes a ring of n places sound. -/
def Snd (n : Nat) (h N : Int) : Prop := n ≤ 96 ∧ 0 ≤ h ∧ (h < n ∨ h = 0) ∧ 0 ≤ N ∧ N ≤ n
instance (n : Nat) (h N : Int) : Decidable (Snd n h N) := by unfold Snd; infer_instance
def soundB (n : Nat) (h N : Int) : Bool := decide (Snd n h N)
theorem sound_iff {n : Nat} {h N : Int} : soundB n h N = true ↔ Snd n h N := by simp [soundB]

theorem ret_int {k : IntKind} {a b : Int} (h : a = b) : Ending.returned (.int k a) = .returned (.int k b) := by rw [h]

theorem sound_any (A : Option Addr) (n c : Nat) (h N : Int) (w : World) (hn : n ≤ 9223372036854775807) : Calls Try.prog 43 #[.agg #[.slice A n c, .int .i64 h, .int .i64 N]] w fun e w' => e = .returned (.bool (soundB n h N)) ∧ Below w.heap.size w w' := by
  by_cases c1 : (n : Int) ≤ 96
  · have dc1 : decide ((n : Int) ≤ 96) = true := by exact decide_eq_true c1
    by_cases c2 : 0 ≤ h
    · have dc2 : decide (0 ≤ h) = true := by exact decide_eq_true c2
      by_cases c3 : h < n
      · have dc3 : decide (h < n) = true := by exact decide_eq_true c3
        by_cases c4 : h = 0
        · have dc4 : (h == 0) = true := by rw [beq_iff_eq]; exact c4
          have Hc4 := Lib.hid c4
          clear c4
          by_cases c5 : 0 ≤ N
          · have dc5 : decide (0 ≤ N) = true := by exact decide_eq_true c5
            by_cases c6 : N ≤ n
            · have dc6 : decide (N ≤ n) = true := by exact decide_eq_true c6
              first | (exfalso; omega) | (go_enter Try.func43, Try.ntmps43; go_wp2; all_goals (go_ret; exact ⟨ret_bool (by simp only [soundB]; first | (rw [eq_comm, decide_eq_true_eq]; unfold Snd; (first | omega | (have hh := Hc4.out; omega))) | (rw [eq_comm, decide_eq_false_iff_not]; unfold Snd; (first | omega | (have hh := Hc4.out; omega)))), (Below.refl _ _).alloc (Nat.le_refl _) _⟩))
            · have dc6 : decide (N ≤ n) = false := by exact decide_eq_false c6
              first | (exfalso; omega) | (go_enter Try.func43, Try.ntmps43; go_wp2; all_goals (go_ret; exact ⟨ret_bool (by simp only [soundB]; first | (rw [eq_comm, decide_eq_true_eq]; unfold Snd; (first | omega | (have hh := Hc4.out; omega))) | (rw [eq_comm, decide_eq_false_iff_not]; unfold Snd; (first | omega | (have hh := Hc4.out; omega)))), (Below.refl _ _).alloc (Nat.le_refl _) _⟩))
          · have dc5 : decide (0 ≤ N) = false := by exact decide_eq_false c5
            first | (exfalso; omega) | (go_enter Try.func43, Try.ntmps43; go_wp2; all_goals (go_ret; exact ⟨ret_bool (by simp only [soundB]; first | (rw [eq_comm, decide_eq_true_eq]; unfold Snd; (first | omega | (have hh := Hc4.out; omega))) | (rw [eq_comm, decide_eq_false_iff_not]; unfold Snd; (first | omega | (have hh := Hc4.out; omega)))), (Below.refl _ _).alloc (Nat.le_refl _) _⟩))
        · have dc4 : (h == 0) = false := by rw [beq_eq_false_iff_ne]; exact c4
          by_cases c5 : 0 ≤ N
          · have dc5 : decide (0 ≤ N) = true := by exact decide_eq_true c5
            by_cases c6 : N ≤ n
            · have dc6 : decide (N ≤ n) = true := by exact decide_eq_true c6
              first | (exfalso; omega) | (go_enter Try.func43, Try.ntmps43; go_wp2; all_goals (go_ret; exact ⟨ret_bool (by simp only [soundB]; first | (rw [eq_comm, decide_eq_true_eq]; unfold Snd; (first | omega | (have hh := Hc4.out; omega))) | (rw [eq_comm, decide_eq_false_iff_not]; unfold Snd; (first | omega | (have hh := Hc4.out; omega)))), (Below.refl _ _).alloc (Nat.le_refl _) _⟩))
            · have dc6 : decide (N ≤ n) = false := by exact decide_eq_false c6
              first | (exfalso; omega) | (go_enter Try.func43, Try.ntmps43; go_wp2; all_goals (go_ret; exact ⟨ret_bool (by simp only [soundB]; first | (rw [eq_comm, decide_eq_true_eq]; unfold Snd; (first | omega | (have hh := Hc4.out; omega))) | (rw [eq_comm, decide_eq_false_iff_not]; unfold Snd; (first | omega | (have hh := Hc4.out; omega)))), (Below.refl _ _).alloc (Nat.le_refl _) _⟩))
          · have dc5 : decide (0 ≤ N) = false := by exact decide_eq_false c5
            first | (exfalso; omega) | (go_enter Try.func43, Try.ntmps43; go_wp2; all_goals (go_ret; exact ⟨ret_bool (by simp only [soundB]; first | (rw [eq_comm, decide_eq_true_eq]; unfold Snd; (first | omega | (have hh := Hc4.out; omega))) | (rw [eq_comm, decide_eq_false_iff_not]; unfold Snd; (first | omega | (have hh := Hc4.out; omega)))), (Below.refl _ _).alloc (Nat.le_refl _) _⟩))
      · have dc3 : decide (h < n) = false := by exact decide_eq_false c3
        by_cases c4 : h = 0
        · have dc4 : (h == 0) = true := by rw [beq_iff_eq]; exact c4
          have Hc4 := Lib.hid c4
          clear c4
          by_cases c5 : 0 ≤ N
          · have dc5 : decide (0 ≤ N) = true := by exact decide_eq_true c5
            by_cases c6 : N ≤ n
            · have dc6 : decide (N ≤ n) = true := by exact decide_eq_true c6
              first | (exfalso; omega) | (go_enter Try.func43, Try.ntmps43; go_wp2; all_goals (go_ret; exact ⟨ret_bool (by simp only [soundB]; first | (rw [eq_comm, decide_eq_true_eq]; unfold Snd; (first | omega | (have hh := Hc4.out; omega))) | (rw [eq_comm, decide_eq_false_iff_not]; unfold Snd; (first | omega | (have hh := Hc4.out; omega)))), (Below.refl _ _).alloc (Nat.le_refl _) _⟩))
            · have dc6 : decide (N ≤ n) = false := by exact decide_eq_false c6
              first | (exfalso; omega) | (go_enter Try.func43, Try.ntmps43; go_wp2; all_goals (go_ret; exact ⟨ret_bool (by simp only [soundB]; first | (rw [eq_comm, decide_eq_true_eq]; unfold Snd; (first | omega | (have hh := Hc4.out; omega))) | (rw [eq_comm, decide_eq_false_iff_not]; unfold Snd; (first | omega | (have hh := Hc4.out; omega)))), (Below.refl _ _).alloc (Nat.le_refl _) _⟩))
          · have dc5 : decide (0 ≤ N) = false := by exact decide_eq_false c5
            first | (exfalso; omega) | (go_enter Try.func43, Try.ntmps43; go_wp2; all_goals (go_ret; exact ⟨ret_bool (by simp only [soundB]; first | (rw [eq_comm, decide_eq_true_eq]; unfold Snd; (first | omega | (have hh := Hc4.out; omega))) | (rw [eq_comm, decide_eq_false_iff_not]; unfold Snd; (first | omega | (have hh := Hc4.out; omega)))), (Below.refl _ _).alloc (Nat.le_refl _) _⟩))
        · have dc4 : (h == 0) = false := by rw [beq_eq_false_iff_ne]; exact c4
          by_cases c5 : 0 ≤ N
          · have dc5 : decide (0 ≤ N) = true := by exact decide_eq_true c5
            by_cases c6 : N ≤ n
            · have dc6 : decide (N ≤ n) = true := by exact decide_eq_true c6
              first | (exfalso; omega) | (go_enter Try.func43, Try.ntmps43; go_wp2; all_goals (go_ret; exact ⟨ret_bool (by simp only [soundB]; first | (rw [eq_comm, decide_eq_true_eq]; unfold Snd; (first | omega | (have hh := Hc4.out; omega))) | (rw [eq_comm, decide_eq_false_iff_not]; unfold Snd; (first | omega | (have hh := Hc4.out; omega)))), (Below.refl _ _).alloc (Nat.le_refl _) _⟩))
            · have dc6 : decide (N ≤ n) = false := by exact decide_eq_false c6
              first | (exfalso; omega) | (go_enter Try.func43, Try.ntmps43; go_wp2; all_goals (go_ret; exact ⟨ret_bool (by simp only [soundB]; first | (rw [eq_comm, decide_eq_true_eq]; unfold Snd; (first | omega | (have hh := Hc4.out; omega))) | (rw [eq_comm, decide_eq_false_iff_not]; unfold Snd; (first | omega | (have hh := Hc4.out; omega)))), (Below.refl _ _).alloc (Nat.le_refl _) _⟩))
          · have dc5 : decide (0 ≤ N) = false := by exact decide_eq_false c5
            first | (exfalso; omega) | (go_enter Try.func43, Try.ntmps43; go_wp2; all_goals (go_ret; exact ⟨ret_bool (by simp only [soundB]; first | (rw [eq_comm, decide_eq_true_eq]; unfold Snd; (first | omega | (have hh := Hc4.out; omega))) | (rw [eq_comm, decide_eq_false_iff_not]; unfold Snd; (first | omega | (have hh := Hc4.out; omega)))), (Below.refl _ _).alloc (Nat.le_refl _) _⟩))
    · have dc2 : decide (0 ≤ h) = false := by exact decide_eq_false c2
      first | (exfalso; omega) | (go_enter Try.func43, Try.ntmps43; go_wp2; all_goals (go_ret; exact ⟨ret_bool (by simp only [soundB]; first | (rw [eq_comm, decide_eq_true_eq]; unfold Snd; (first | omega | (have hh := Hc4.out; omega))) | (rw [eq_comm, decide_eq_false_iff_not]; unfold Snd; (first | omega | (have hh := Hc4.out; omega)))), (Below.refl _ _).alloc (Nat.le_refl _) _⟩))
  · have dc1 : decide ((n : Int) ≤ 96) = false := by exact decide_eq_false c1
    first | (exfalso; omega) | (go_enter Try.func43, Try.ntmps43; go_wp2; all_goals (go_ret; exact ⟨ret_bool (by simp only [soundB]; first | (rw [eq_comm, decide_eq_true_eq]; unfold Snd; (first | omega | (have hh := Hc4.out; omega))) | (rw [eq_comm, decide_eq_false_iff_not]; unfold Snd; (first | omega | (have hh := Hc4.out; omega)))), (Below.refl _ _).alloc (Nat.le_refl _) _⟩))

theorem is_any (A : Option Addr) (n c : Nat) (h N : Int) (w : World) (hn : n ≤ 9223372036854775807) : Calls Try.prog 55 #[.agg #[.slice A n c, .int .i64 h, .int .i64 N]] w fun e w' => e = .returned (.bool (soundB n h N)) ∧ Below w.heap.size w w' := by
  by_cases c1 : (96 : Int) < n
  · have dc1 : decide ((96 : Int) < n) = true := by exact decide_eq_true c1
    first | (exfalso; omega) | (go_enter Try.func55, Try.ntmps55; go_wp2; all_goals (go_ret; exact ⟨ret_bool (by simp only [soundB]; first | (rw [eq_comm, decide_eq_true_eq]; unfold Snd; (first | omega | (have h6 := Hc6.out; omega) | (have h7 := Hc7.out; omega) | (have h6 := Hc6.out; have h7 := Hc7.out; omega))) | (rw [eq_comm, decide_eq_false_iff_not]; unfold Snd; (first | omega | (have h6 := Hc6.out; omega) | (have h7 := Hc7.out; omega) | (have h6 := Hc6.out; have h7 := Hc7.out; omega)))), (Below.refl _ _).alloc (Nat.le_refl _) _⟩))
  · have dc1 : decide ((96 : Int) < n) = false := by exact decide_eq_false c1
    by_cases c2 : N < 0
    · have dc2 : decide (N < 0) = true := by exact decide_eq_true c2
      first | (exfalso; omega) | (go_enter Try.func55, Try.ntmps55; go_wp2; all_goals (go_ret; exact ⟨ret_bool (by simp only [soundB]; first | (rw [eq_comm, decide_eq_true_eq]; unfold Snd; (first | omega | (have h6 := Hc6.out; omega) | (have h7 := Hc7.out; omega) | (have h6 := Hc6.out; have h7 := Hc7.out; omega))) | (rw [eq_comm, decide_eq_false_iff_not]; unfold Snd; (first | omega | (have h6 := Hc6.out; omega) | (have h7 := Hc7.out; omega) | (have h6 := Hc6.out; have h7 := Hc7.out; omega)))), (Below.refl _ _).alloc (Nat.le_refl _) _⟩))
    · have dc2 : decide (N < 0) = false := by exact decide_eq_false c2
      by_cases c3 : (n : Int) < N
      · have dc3 : decide ((n : Int) < N) = true := by exact decide_eq_true c3
        first | (exfalso; omega) | (go_enter Try.func55, Try.ntmps55; go_wp2; all_goals (go_ret; exact ⟨ret_bool (by simp only [soundB]; first | (rw [eq_comm, decide_eq_true_eq]; unfold Snd; (first | omega | (have h6 := Hc6.out; omega) | (have h7 := Hc7.out; omega) | (have h6 := Hc6.out; have h7 := Hc7.out; omega))) | (rw [eq_comm, decide_eq_false_iff_not]; unfold Snd; (first | omega | (have h6 := Hc6.out; omega) | (have h7 := Hc7.out; omega) | (have h6 := Hc6.out; have h7 := Hc7.out; omega)))), (Below.refl _ _).alloc (Nat.le_refl _) _⟩))
      · have dc3 : decide ((n : Int) < N) = false := by exact decide_eq_false c3
        by_cases c4 : 0 ≤ h
        · have dc4 : decide (0 ≤ h) = true := by exact decide_eq_true c4
          by_cases c5 : h < n
          · have dc5 : decide (h < n) = true := by exact decide_eq_true c5
            by_cases c6 : (n : Int) = 0
            · have dc6 : ((n : Int) == 0) = true := by rw [beq_iff_eq]; exact c6
              have Hc6 := Lib.hid c6
              clear c6
              by_cases c7 : h = 0
              · have dc7 : (h == 0) = true := by rw [beq_iff_eq]; exact c7
                have Hc7 := Lib.hid c7
                clear c7
                first | (exfalso; omega) | (go_enter Try.func55, Try.ntmps55; go_wp2; all_goals (go_ret; exact ⟨ret_bool (by simp only [soundB]; first | (rw [eq_comm, decide_eq_true_eq]; unfold Snd; (first | omega | (have h6 := Hc6.out; omega) | (have h7 := Hc7.out; omega) | (have h6 := Hc6.out; have h7 := Hc7.out; omega))) | (rw [eq_comm, decide_eq_false_iff_not]; unfold Snd; (first | omega | (have h6 := Hc6.out; omega) | (have h7 := Hc7.out; omega) | (have h6 := Hc6.out; have h7 := Hc7.out; omega)))), (Below.refl _ _).alloc (Nat.le_refl _) _⟩))
              · have dc7 : (h == 0) = false := by rw [beq_eq_false_iff_ne]; exact c7
                first | (exfalso; omega) | (go_enter Try.func55, Try.ntmps55; go_wp2; all_goals (go_ret; exact ⟨ret_bool (by simp only [soundB]; first | (rw [eq_comm, decide_eq_true_eq]; unfold Snd; (first | omega | (have h6 := Hc6.out; omega) | (have h7 := Hc7.out; omega) | (have h6 := Hc6.out; have h7 := Hc7.out; omega))) | (rw [eq_comm, decide_eq_false_iff_not]; unfold Snd; (first | omega | (have h6 := Hc6.out; omega) | (have h7 := Hc7.out; omega) | (have h6 := Hc6.out; have h7 := Hc7.out; omega)))), (Below.refl _ _).alloc (Nat.le_refl _) _⟩))
            · have dc6 : ((n : Int) == 0) = false := by rw [beq_eq_false_iff_ne]; exact c6
              by_cases c7 : h = 0
              · have dc7 : (h == 0) = true := by rw [beq_iff_eq]; exact c7
                have Hc7 := Lib.hid c7
                clear c7
                first | (exfalso; omega) | (go_enter Try.func55, Try.ntmps55; go_wp2; all_goals (go_ret; exact ⟨ret_bool (by simp only [soundB]; first | (rw [eq_comm, decide_eq_true_eq]; unfold Snd; (first | omega | (have h6 := Hc6.out; omega) | (have h7 := Hc7.out; omega) | (have h6 := Hc6.out; have h7 := Hc7.out; omega))) | (rw [eq_comm, decide_eq_false_iff_not]; unfold Snd; (first | omega | (have h6 := Hc6.out; omega) | (have h7 := Hc7.out; omega) | (have h6 := Hc6.out; have h7 := Hc7.out; omega)))), (Below.refl _ _).alloc (Nat.le_refl _) _⟩))
              · have dc7 : (h == 0) = false := by rw [beq_eq_false_iff_ne]; exact c7
                first | (exfalso; omega) | (go_enter Try.func55, Try.ntmps55; go_wp2; all_goals (go_ret; exact ⟨ret_bool (by simp only [soundB]; first | (rw [eq_comm, decide_eq_true_eq]; unfold Snd; (first | omega | (have h6 := Hc6.out; omega) | (have h7 := Hc7.out; omega) | (have h6 := Hc6.out; have h7 := Hc7.out; omega))) | (rw [eq_comm, decide_eq_false_iff_not]; unfold Snd; (first | omega | (have h6 := Hc6.out; omega) | (have h7 := Hc7.out; omega) | (have h6 := Hc6.out; have h7 := Hc7.out; omega)))), (Below.refl _ _).alloc (Nat.le_refl _) _⟩))
          · have dc5 : decide (h < n) = false := by exact decide_eq_false c5
            by_cases c6 : (n : Int) = 0
            · have dc6 : ((n : Int) == 0) = true := by rw [beq_iff_eq]; exact c6
              have Hc6 := Lib.hid c6
              clear c6
              by_cases c7 : h = 0
              · have dc7 : (h == 0) = true := by rw [beq_iff_eq]; exact c7
                have Hc7 := Lib.hid c7
                clear c7
                first | (exfalso; omega) | (go_enter Try.func55, Try.ntmps55; go_wp2; all_goals (go_ret; exact ⟨ret_bool (by simp only [soundB]; first | (rw [eq_comm, decide_eq_true_eq]; unfold Snd; (first | omega | (have h6 := Hc6.out; omega) | (have h7 := Hc7.out; omega) | (have h6 := Hc6.out; have h7 := Hc7.out; omega))) | (rw [eq_comm, decide_eq_false_iff_not]; unfold Snd; (first | omega | (have h6 := Hc6.out; omega) | (have h7 := Hc7.out; omega) | (have h6 := Hc6.out; have h7 := Hc7.out; omega)))), (Below.refl _ _).alloc (Nat.le_refl _) _⟩))
              · have dc7 : (h == 0) = false := by rw [beq_eq_false_iff_ne]; exact c7
                first | (exfalso; omega) | (go_enter Try.func55, Try.ntmps55; go_wp2; all_goals (go_ret; exact ⟨ret_bool (by simp only [soundB]; first | (rw [eq_comm, decide_eq_true_eq]; unfold Snd; (first | omega | (have h6 := Hc6.out; omega) | (have h7 := Hc7.out; omega) | (have h6 := Hc6.out; have h7 := Hc7.out; omega))) | (rw [eq_comm, decide_eq_false_iff_not]; unfold Snd; (first | omega | (have h6 := Hc6.out; omega) | (have h7 := Hc7.out; omega) | (have h6 := Hc6.out; have h7 := Hc7.out; omega)))), (Below.refl _ _).alloc (Nat.le_refl _) _⟩))
            · have dc6 : ((n : Int) == 0) = false := by rw [beq_eq_false_iff_ne]; exact c6
              by_cases c7 : h = 0
              · have dc7 : (h == 0) = true := by rw [beq_iff_eq]; exact c7
                have Hc7 := Lib.hid c7
                clear c7
                first | (exfalso; omega) | (go_enter Try.func55, Try.ntmps55; go_wp2; all_goals (go_ret; exact ⟨ret_bool (by simp only [soundB]; first | (rw [eq_comm, decide_eq_true_eq]; unfold Snd; (first | omega | (have h6 := Hc6.out; omega) | (have h7 := Hc7.out; omega) | (have h6 := Hc6.out; have h7 := Hc7.out; omega))) | (rw [eq_comm, decide_eq_false_iff_not]; unfold Snd; (first | omega | (have h6 := Hc6.out; omega) | (have h7 := Hc7.out; omega) | (have h6 := Hc6.out; have h7 := Hc7.out; omega)))), (Below.refl _ _).alloc (Nat.le_refl _) _⟩))
              · have dc7 : (h == 0) = false := by rw [beq_eq_false_iff_ne]; exact c7
                first | (exfalso; omega) | (go_enter Try.func55, Try.ntmps55; go_wp2; all_goals (go_ret; exact ⟨ret_bool (by simp only [soundB]; first | (rw [eq_comm, decide_eq_true_eq]; unfold Snd; (first | omega | (have h6 := Hc6.out; omega) | (have h7 := Hc7.out; omega) | (have h6 := Hc6.out; have h7 := Hc7.out; omega))) | (rw [eq_comm, decide_eq_false_iff_not]; unfold Snd; (first | omega | (have h6 := Hc6.out; omega) | (have h7 := Hc7.out; omega) | (have h6 := Hc6.out; have h7 := Hc7.out; omega)))), (Below.refl _ _).alloc (Nat.le_refl _) _⟩))
        · have dc4 : decide (0 ≤ h) = false := by exact decide_eq_false c4
          by_cases c5 : h < n
          · have dc5 : decide (h < n) = true := by exact decide_eq_true c5
            by_cases c6 : (n : Int) = 0
            · have dc6 : ((n : Int) == 0) = true := by rw [beq_iff_eq]; exact c6
              have Hc6 := Lib.hid c6
              clear c6
              by_cases c7 : h = 0
              · have dc7 : (h == 0) = true := by rw [beq_iff_eq]; exact c7
                have Hc7 := Lib.hid c7
                clear c7
                first | (exfalso; omega) | (go_enter Try.func55, Try.ntmps55; go_wp2; all_goals (go_ret; exact ⟨ret_bool (by simp only [soundB]; first | (rw [eq_comm, decide_eq_true_eq]; unfold Snd; (first | omega | (have h6 := Hc6.out; omega) | (have h7 := Hc7.out; omega) | (have h6 := Hc6.out; have h7 := Hc7.out; omega))) | (rw [eq_comm, decide_eq_false_iff_not]; unfold Snd; (first | omega | (have h6 := Hc6.out; omega) | (have h7 := Hc7.out; omega) | (have h6 := Hc6.out; have h7 := Hc7.out; omega)))), (Below.refl _ _).alloc (Nat.le_refl _) _⟩))
              · have dc7 : (h == 0) = false := by rw [beq_eq_false_iff_ne]; exact c7
                first | (exfalso; omega) | (go_enter Try.func55, Try.ntmps55; go_wp2; all_goals (go_ret; exact ⟨ret_bool (by simp only [soundB]; first | (rw [eq_comm, decide_eq_true_eq]; unfold Snd; (first | omega | (have h6 := Hc6.out; omega) | (have h7 := Hc7.out; omega) | (have h6 := Hc6.out; have h7 := Hc7.out; omega))) | (rw [eq_comm, decide_eq_false_iff_not]; unfold Snd; (first | omega | (have h6 := Hc6.out; omega) | (have h7 := Hc7.out; omega) | (have h6 := Hc6.out; have h7 := Hc7.out; omega)))), (Below.refl _ _).alloc (Nat.le_refl _) _⟩))
            · have dc6 : ((n : Int) == 0) = false := by rw [beq_eq_false_iff_ne]; exact c6
              by_cases c7 : h = 0
              · have dc7 : (h == 0) = true := by rw [beq_iff_eq]; exact c7
                have Hc7 := Lib.hid c7
                clear c7
                first | (exfalso; omega) | (go_enter Try.func55, Try.ntmps55; go_wp2; all_goals (go_ret; exact ⟨ret_bool (by simp only [soundB]; first | (rw [eq_comm, decide_eq_true_eq]; unfold Snd; (first | omega | (have h6 := Hc6.out; omega) | (have h7 := Hc7.out; omega) | (have h6 := Hc6.out; have h7 := Hc7.out; omega))) | (rw [eq_comm, decide_eq_false_iff_not]; unfold Snd; (first | omega | (have h6 := Hc6.out; omega) | (have h7 := Hc7.out; omega) | (have h6 := Hc6.out; have h7 := Hc7.out; omega)))), (Below.refl _ _).alloc (Nat.le_refl _) _⟩))
              · have dc7 : (h == 0) = false := by rw [beq_eq_false_iff_ne]; exact c7
                first | (exfalso; omega) | (go_enter Try.func55, Try.ntmps55; go_wp2; all_goals (go_ret; exact ⟨ret_bool (by simp only [soundB]; first | (rw [eq_comm, decide_eq_true_eq]; unfold Snd; (first | omega | (have h6 := Hc6.out; omega) | (have h7 := Hc7.out; omega) | (have h6 := Hc6.out; have h7 := Hc7.out; omega))) | (rw [eq_comm, decide_eq_false_iff_not]; unfold Snd; (first | omega | (have h6 := Hc6.out; omega) | (have h7 := Hc7.out; omega) | (have h6 := Hc6.out; have h7 := Hc7.out; omega)))), (Below.refl _ _).alloc (Nat.le_refl _) _⟩))
          · have dc5 : decide (h < n) = false := by exact decide_eq_false c5
            by_cases c6 : (n : Int) = 0
            · have dc6 : ((n : Int) == 0) = true := by rw [beq_iff_eq]; exact c6
              have Hc6 := Lib.hid c6
              clear c6
              by_cases c7 : h = 0
              · have dc7 : (h == 0) = true := by rw [beq_iff_eq]; exact c7
                have Hc7 := Lib.hid c7
                clear c7
                first | (exfalso; omega) | (go_enter Try.func55, Try.ntmps55; go_wp2; all_goals (go_ret; exact ⟨ret_bool (by simp only [soundB]; first | (rw [eq_comm, decide_eq_true_eq]; unfold Snd; (first | omega | (have h6 := Hc6.out; omega) | (have h7 := Hc7.out; omega) | (have h6 := Hc6.out; have h7 := Hc7.out; omega))) | (rw [eq_comm, decide_eq_false_iff_not]; unfold Snd; (first | omega | (have h6 := Hc6.out; omega) | (have h7 := Hc7.out; omega) | (have h6 := Hc6.out; have h7 := Hc7.out; omega)))), (Below.refl _ _).alloc (Nat.le_refl _) _⟩))
              · have dc7 : (h == 0) = false := by rw [beq_eq_false_iff_ne]; exact c7
                first | (exfalso; omega) | (go_enter Try.func55, Try.ntmps55; go_wp2; all_goals (go_ret; exact ⟨ret_bool (by simp only [soundB]; first | (rw [eq_comm, decide_eq_true_eq]; unfold Snd; (first | omega | (have h6 := Hc6.out; omega) | (have h7 := Hc7.out; omega) | (have h6 := Hc6.out; have h7 := Hc7.out; omega))) | (rw [eq_comm, decide_eq_false_iff_not]; unfold Snd; (first | omega | (have h6 := Hc6.out; omega) | (have h7 := Hc7.out; omega) | (have h6 := Hc6.out; have h7 := Hc7.out; omega)))), (Below.refl _ _).alloc (Nat.le_refl _) _⟩))
            · have dc6 : ((n : Int) == 0) = false := by rw [beq_eq_false_iff_ne]; exact c6
              by_cases c7 : h = 0
              · have dc7 : (h == 0) = true := by rw [beq_iff_eq]; exact c7
                have Hc7 := Lib.hid c7
                clear c7
                first | (exfalso; omega) | (go_enter Try.func55, Try.ntmps55; go_wp2; all_goals (go_ret; exact ⟨ret_bool (by simp only [soundB]; first | (rw [eq_comm, decide_eq_true_eq]; unfold Snd; (first | omega | (have h6 := Hc6.out; omega) | (have h7 := Hc7.out; omega) | (have h6 := Hc6.out; have h7 := Hc7.out; omega))) | (rw [eq_comm, decide_eq_false_iff_not]; unfold Snd; (first | omega | (have h6 := Hc6.out; omega) | (have h7 := Hc7.out; omega) | (have h6 := Hc6.out; have h7 := Hc7.out; omega)))), (Below.refl _ _).alloc (Nat.le_refl _) _⟩))
              · have dc7 : (h == 0) = false := by rw [beq_eq_false_iff_ne]; exact c7
                first | (exfalso; omega) | (go_enter Try.func55, Try.ntmps55; go_wp2; all_goals (go_ret; exact ⟨ret_bool (by simp only [soundB]; first | (rw [eq_comm, decide_eq_true_eq]; unfold Snd; (first | omega | (have h6 := Hc6.out; omega) | (have h7 := Hc7.out; omega) | (have h6 := Hc6.out; have h7 := Hc7.out; omega))) | (rw [eq_comm, decide_eq_false_iff_not]; unfold Snd; (first | omega | (have h6 := Hc6.out; omega) | (have h7 := Hc7.out; omega) | (have h6 := Hc6.out; have h7 := Hc7.out; omega)))), (Below.refl _ _).alloc (Nat.le_refl _) _⟩))
/-- The place that is k behind the first one. -/
def atZ (n : Nat) (h k : Int) : Int := (h + k) % n
theorem at_any (A : Option Addr) (n c : Nat) (h N k : Int) (w : World) (hn0 : 0 < n) (hn : n ≤ 96) (h0 : 0 ≤ h) (h1 : h < n) (k0 : -1 ≤ k) (k1 : k ≤ 96) : Calls Try.prog 44 #[.agg #[.slice A n c, .int .i64 h, .int .i64 N], .int .i64 k] w fun e w' => e = .returned (.int .i64 (atZ n h k)) ∧ Below w.heap.size w w' := by
  by_cases c0 : 0 ≤ h + k
  · have m0 : 0 ≤ (h + k) % (n : Int) := Int.emod_nonneg _ (by omega)
    have m1 : (h + k) % (n : Int) < n := Int.emod_lt_of_pos _ (by omega)
    go_enter Try.func44, Try.ntmps44
    go_wp2
    go_ret
    exact ⟨ret_int (by unfold atZ; rw [Int.add_emod_right, Int.emod_emod_of_dvd _ (Int.dvd_refl _)]), (Below.refl _ _).alloc (Nat.le_refl _) _⟩
  · have e : (h + k).tmod (n : Int) = -(1 % (n : Int)) := by
      rw [show h + k = -1 by omega, Int.neg_tmod, Int.tmod_eq_emod_of_nonneg (by omega)]
    have m0 : 0 ≤ 1 % (n : Int) := Int.emod_nonneg _ (by omega)
    have m1 : 1 % (n : Int) < n := Int.emod_lt_of_pos _ (by omega)
    have HC := Lib.hid (show h + k = -1 by omega)
    go_enter Try.func44, Try.ntmps44
    go_wp2
    go_ret
    refine ⟨ret_int ?_, (Below.refl _ _).alloc (Nat.le_refl _) _⟩
    unfold atZ
    rw [HC.out]
    by_cases e1 : n = 1
    · subst e1; rfl
    · rw [Int.emod_eq_of_lt (a := 1) (by omega) (by omega)]

end Go.Proofs.Ytpgighhnhidpcaa.My
