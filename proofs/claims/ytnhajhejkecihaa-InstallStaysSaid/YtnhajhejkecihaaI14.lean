/- Install: the plain law of InstallRoom, its second half. -/
import Derived.Test.YtnhajhejkecihaaI13
namespace Go.Proofs.Ytnhajhejkecihaa
open Go.RowKit Go.Lib
set_option linter.unusedVariables false
set_option linter.unusedSimpArgs false

theorem frees_prefix (t : Nat) : ∀ n, frees (fun i => decide (i < t)) n = n - t
  | 0 => by simp [frees]
  | n + 1 => by
    rw [frees_step, frees_prefix t n]
    by_cases h : n < t
    · simp [h]; omega
    · simp [h]; omega
theorem taken_map (f : ME → ME) (h : ∀ e, (f e).a = e.a ∧ (f e).bytes = e.bytes) (l : List ME) (i : Nat) : takenB (l.map f) i = takenB l i := by
  unfold takenB
  rw [List.any_map]
  congr 1
  funext e
  have e1 : (f e).on i = (decide ((f e).a ≤ i) && decide (i < (f e).a + lns (f e).bytes.length)) := rfl
  have e2 : e.on i = (decide (e.a ≤ i) && decide (i < e.a + lns e.bytes.length)) := rfl
  show (f e).on i = e.on i
  rw [e1, e2, (h e).1, (h e).2]
theorem passed_keep {s : MS} {c : Nat} (h : ∀ e ∈ s.all, (e.passed c).free = false) : (s.passed c).all = s.all.map (ME.passed c) := by
  unfold MS.passed
  simp only
  rw [List.filter_eq_self]
  intro e he
  obtain ⟨x, hx, rfl⟩ := List.mem_map.1 he
  unfold ME.gone
  rw [h x hx]
  simp
theorem passed_gone {s : MS} {c : Nat} (h : ∀ e ∈ s.all, (e.passed c).gone = true) : (s.passed c).all = [] := by
  unfold MS.passed
  simp only
  rw [List.filter_eq_nil_iff]
  intro e he
  obtain ⟨x, hx, rfl⟩ := List.mem_map.1 he
  rw [h x hx]
  simp
/-- All entries are dropped and owe as o says. -/
def Owe (s : MS) (o : List Bool) : Prop := ∀ e ∈ s.all, e.dropped = true ∧ e.owed = o
theorem dr_owe (b : Bytes) (m : Nat) : Owe (dr (rm b m) m) [true, true, true] := fun e he => by
  obtain ⟨i, hi, rfl⟩ := List.getElem_of_mem he
  have hi2 : i < m := by rw [dr_len, rm_len] at hi; exact hi
  have e1 := dr_at_lt (rm b m) hi2 (by rw [rm_len]; exact hi2)
  rw [getD_eq' _ _ _ hi] at e1
  rw [e1, rm_at b m i hi2]
  exact ⟨rfl, rfl⟩
theorem dr_taken (b : Bytes) (hb : 0 < b.length) (m i : Nat) : takenB (dr (rm b m) m).all i = decide (i < lns b.length * m) := by
  have e : (dr (rm b m) m).all = (rm b m).all.map (fun e => { e with dropped := true }) := by
    unfold dr
    simp only
    rw [List.take_of_length_le (by rw [rm_len]; omega), List.drop_eq_nil_of_le (by rw [rm_len]; omega), List.append_nil]
  rw [e, taken_map (fun e : ME => { e with dropped := true }) (fun _ => ⟨rfl, rfl⟩)]
  exact rm_taken b hb m i
theorem Owe.passed {s : MS} {o : List Bool} (h : Owe s o) {c : Nat} (hc : (o.set c false).all (!·) = false) : (s.passed c).all = s.all.map (ME.passed c) ∧ Owe (s.passed c) (o.set c false) := by
  have e := passed_keep (s := s) (c := c) (fun e he => by unfold ME.passed ME.free; simp only; rw [(h e he).2]; exact hc)
  refine ⟨e, fun x hx => ?_⟩
  rw [e] at hx
  obtain ⟨y, hy, rfl⟩ := List.mem_map.1 hx
  exact ⟨(h y hy).1, by unfold ME.passed; simp only; rw [(h y hy).2]⟩
theorem Owe.over {s : MS} {o : List Bool} (h : Owe s o) {c : Nat} (hc : (o.set c false).all (!·) = true) : (s.passed c).all = [] :=
  passed_gone (fun e he => by unfold ME.gone ME.passed ME.free; simp only; rw [(h e he).1, (h e he).2]; simpa using hc)
theorem passed_inn (s : MS) (c : Nat) : (s.passed c).inn = s.inn := rfl
theorem dr_inn (s : MS) (j : Nat) : (dr s j).inn = s.inn := rfl
/-- What InstallRoom sees, once all are dropped. -/
theorem room_end (b : Bytes) (hb : 0 < b.length) (m : Nat) :
    (∀ i, takenB (((dr (rm b m) m).passed 0).passed 1).all i = decide (i < lns b.length * m)) ∧ ((((dr (rm b m) m).passed 0).passed 1).passed 2).all = [] := by
  obtain ⟨h1, o1⟩ := (dr_owe b m).passed (c := 0) rfl
  obtain ⟨h2, o2⟩ := o1.passed (c := 1) rfl
  refine ⟨fun i => ?_, o2.over rfl⟩
  rw [h2, taken_map (ME.passed 1) (fun _ => ⟨rfl, rfl⟩), h1, taken_map (ME.passed 0) (fun _ => ⟨rfl, rfl⟩)]
  exact dr_taken b hb m i
end Go.Proofs.Ytnhajhejkecihaa
