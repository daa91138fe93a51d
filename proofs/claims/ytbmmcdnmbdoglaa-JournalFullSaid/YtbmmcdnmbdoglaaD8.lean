/- The contract of Read; Write and Sync where they are refused; the nil disk. -/
import Derived.Test.YtbmmcdnmbdoglaaD6
import Derived.Test.YtbmmcdnmbdoglaaD7
import Derived.Laws.IdiomStrings
namespace Go.Proofs.Ytbmmcdnmbdoglaa
open Go.RowKit
set_option linter.unusedVariables false

theorem keep_drewN (F : Nat → Prop) (w : World) (n : Nat) : Keep F w (w.drewN n) := ⟨rfl, rfl, rfl, Nat.le_refl _, fun _ _ _ => rfl⟩
theorem IsDisk.drewN {w : World} {r : Rep} {d : DS} (h : IsDisk w r d) (n : Nat) : IsDisk (w.drewN n) r d := h.keep (keep_drewN (fun _ => False) w n) (fun _ _ => id)

/-- A string made of bytes. -/
def sb (l : Bytes) : ByteArray := ⟨l.toArray⟩
theorem bs_sb (l : Bytes) : bs (sb l) = l := rfl
theorem sb_bs (s : ByteArray) : sb (bs s) = s := rfl
theorem sb_size (l : Bytes) : (sb l).size = l.length := by
  show l.toArray.size = _
  simp
theorem sb_inj {l m : Bytes} (h : sb l = sb m) : l = m := by
  have := congrArg bs h
  exact this

theorem run_back (w : World) (g off : Nat) (c : Nat) (l : Bytes) (hc : ∀ j (hj : j < l.length), w.cell? ⟨g, off + j, none⟩ = some (.int .u8 (l[j].toNat : Int))) :
    (convert 43 9 (.slice (some ⟨g, off, none⟩) l.length c)).run Try.prog w = .ok (.string (sb l)) w :=
  run_convert_bytes_back w 43 9 5 ⟨g, off, none⟩ c l u_bytes Try.underlying5 Try.underlying9 (fun j hj => by rw [Addr.add_lit]; exact hc j hj)

theorem run_cut_from (w : World) (g o n c l : Nat) (hl : l ≤ n) (hc : ¬ c = l) :
    (Instr.slice 43 (.slice (some ⟨g, o, none⟩) n c) (some (.int .i64 (l : Int))) none none).run Try.prog w = .ok (.slice (some ⟨g, o + l, none⟩) (n - l) (c - l)) w := by
  have h1 : (0 : Int) ≤ l := by omega
  have h2 : (l : Int) ≤ n := by omega
  go_simp
theorem run_cut_to (w : World) (A : Option Addr) (n c l : Nat) (hl : l ≤ c) :
    (Instr.slice 43 (.slice A n c) none (some (.int .i64 (l : Int))) none).run Try.prog w = .ok (.slice A l c) w := by
  have h1 : (0 : Int) ≤ l := by omega
  have h2 : (l : Int) ≤ c := by omega
  go_simp
/-- Read where there is nothing to be read. -/
theorem read_none {w : World} {r : Rep} {d : DS} (h : IsDisk w r d) (off n : Int) (hoff : -9223372036854775808 ≤ off ∧ off ≤ 9223372036854775807) (hc : off < 0 ∨ n < 1 ∨ (d.now.length : Int) ≤ off) :
    Calls Try.prog 25 #[.pointer (some ⟨r.p, 0, none⟩), .int .i64 off, .int .i64 n] w fun e w' => e = .returned (.string (sb (readL d.now off n))) ∧ ∃ m, w' = w.drewN m := by
  obtain ⟨A0, c0, _, _, _, _, _, _, _, h0, _⟩ := h.cells
  have hr : readL d.now off n = [] := if_pos hc
  rw [hr]
  have hsb : sb [] = ⟨#[]⟩ := rfl
  rw [hsb]
  clear h hr hsb
  by_cases h1 : off < 0
  · have d1 : decide (off < 0) = true := by simpa using h1
    clear hc
    go_enter Try.func25, Try.ntmps25
    go_wp2_with fail
    go_ret
    exact ⟨rfl, 0, rfl⟩
  · have d1 : decide (off < 0) = false := by simpa using h1
    by_cases h2 : n < 1
    · have d2 : decide (n < 1) = true := by simpa using h2
      clear hc
      go_enter Try.func25, Try.ntmps25
      go_wp2_with fail
      go_ret
      exact ⟨rfl, 0, rfl⟩
    · have d2 : decide (n < 1) = false := by simpa using h2
      have d3 : decide ((d.now.length : Int) ≤ off) = true := by simp; omega
      clear hc
      go_enter Try.func25, Try.ntmps25
      go_wp2_with fail
      go_ret
      exact ⟨rfl, 0, rfl⟩

set_option maxHeartbeats 1000000 in
theorem read_some {w : World} {r : Rep} {d : DS} (h : IsDisk w r d) (off : Nat) (n : Int) (hn : 1 ≤ n) (hn' : n ≤ 9223372036854775807) (hoff : off < d.now.length) :
    Calls Try.prog 25 #[.pointer (some ⟨r.p, 0, none⟩), .int .i64 (off : Int), .int .i64 n] w fun e w' => e = .returned (.string (sb (readL d.now off n))) ∧ ∃ m, w' = w.drewN m := by
  obtain ⟨A0, c0, _, _, _, _, e0, _, _, h0, _⟩ := h.cells
  have hlen : d.now.length ≤ 16777216 := h.ok.now
  have hown := h.now
  obtain ⟨g, cap, hv, _, _⟩ := hown.form (by omega)
  rw [hv] at e0
  injection e0 with e1 e2 e3
  subst e1
  subst e3
  rw [hv] at hown
  have hcap := own_cap hown
  obtain ⟨k, hk⟩ : ∃ k : Nat, (min n (d.now.length - off)).toNat = k := ⟨_, rfl⟩
  have hk1 : 1 ≤ k ∧ k ≤ d.now.length - off ∧ (k : Int) = min n ((d.now.length : Int) - off) := by omega
  obtain ⟨l, hl⟩ : ∃ l, (d.now.drop off).take k = l := ⟨_, rfl⟩
  have hll : l.length = k := by rw [← hl, List.length_take, List.length_drop]; omega
  have hr : readL d.now off n = l := by
    unfold readL
    rw [if_neg (by omega), ← hl, ← hk]
    rfl
  rw [hr]
  have hcell : ∀ j (hj : j < l.length), w.cell? ⟨g, off + j, none⟩ = some (.int .u8 (l[j].toNat : Int)) := by
    intro j hj
    have h2 : off + j < d.now.length := by omega
    have := hown.cellAt (off + j) (by omega)
    rw [this]
    have e4 : l[j] = d.now[off + j] := by
      have : l[j]? = d.now[off + j]? := by
        rw [← hl, List.getElem?_take_of_lt (by omega), List.getElem?_drop]
      rw [List.getElem?_eq_getElem hj, List.getElem?_eq_getElem h2] at this
      exact Option.some.inj this
    rw [e4]
    simp [b8, List.getElem?_map, List.getElem?_eq_getElem h2]
  have hcv := fun c => run_back w.drew g off c l hcell
  rw [hll] at hcv
  have d1 : decide ((off : Int) < 0) = false := by simp
  have d2 : decide (n < 1) = false := by simp; omega
  have d3 : decide ((d.now.length : Int) ≤ (off : Int)) = false := by simp; omega
  have hoc : off ≤ cap := by omega
  have hol : off ≤ d.now.length := by omega
  have hne : ¬ cap = off := by omega
  have hsub : IntKind.i64.wrap ((d.now.length : Int) - off) = (d.now.length : Int) - off := by rw [IntKind.wrap_i64]; omega
  by_cases hlt : (d.now.length : Int) - off < n
  · obtain rfl : k = d.now.length - off := by omega
    have hkc : d.now.length - off ≤ cap - off := by omega
    have hkc2 : (d.now.length : Int) - off ≤ ((cap - off : Nat) : Int) := by omega
    have hkc3 : 0 ≤ (d.now.length : Int) - off := by omega
    clear h hr hcell hll hl hown hk hv hk1
    go_enter Try.func25, Try.ntmps25
    go_wp2_with fail
    go_region
    all_goals go_wp2_with fail
    all_goals go_ret
    all_goals exact ⟨rfl, 1, rfl⟩
  · obtain rfl : n = (k : Int) := by omega
    have hkc : k ≤ cap - off := by omega
    clear h hr hcell hll hl hown hk hv hk1
    go_enter Try.func25, Try.ntmps25
    go_wp2_with fail
    go_region
    all_goals go_wp2_with fail
    all_goals go_ret
    all_goals exact ⟨rfl, 1, rfl⟩
theorem read_disk {w : World} {r : Rep} {d : DS} (h : IsDisk w r d) (off n : Int) (hoff : -9223372036854775808 ≤ off ∧ off ≤ 9223372036854775807) (hn : n ≤ 9223372036854775807) :
    Calls Try.prog 25 #[.pointer (some ⟨r.p, 0, none⟩), .int .i64 off, .int .i64 n] w fun e w' => e = .returned (.string (sb (readL d.now off n))) ∧ ∃ m, w' = w.drewN m := by
  by_cases hc : off < 0 ∨ n < 1 ∨ (d.now.length : Int) ≤ off
  · exact read_none h off n hoff hc
  · obtain ⟨o, rfl⟩ : ∃ o : Nat, off = o := ⟨off.toNat, by omega⟩
    exact read_some h o n (by omega) hn (by omega)

/-! ### Refused calls -/
theorem write_bad (w : World) (v : Option Addr) (off : Int) (s : ByteArray) (hoff : -9223372036854775808 ≤ off ∧ off ≤ 9223372036854775807) (hs : s.size ≤ 9223372036854775807) (hb : v = none ∨ fitsAt off s.size = false) :
    Calls Try.prog 22 #[.pointer v, .int .i64 off, .string s] w fun e w' => e = .returned (.int .i64 1) ∧ w = w' := by
  cases v with
  | none =>
    clear hb
    go_enter Try.func22, Try.ntmps22
    go_wp2_with fail
    go_ret
    exact ⟨rfl, rfl⟩
  | some A =>
    replace hb : fitsAt off s.size = false := by
      rcases hb with hb | hb
      · cases hb
      · exact hb
    have hb' : off < 0 ∨ 16777216 < off ∨ 16777216 - off < (s.size : Int) := by
      simp only [fitsAt, Bool.and_eq_false_iff, decide_eq_false_iff_not] at hb
      omega
    clear hb
    by_cases h1 : off < 0
    · have d1 : decide (off < 0) = true := by simpa using h1
      clear hb'
      go_enter Try.func22, Try.ntmps22
      go_wp2_with fail
      go_ret
      exact ⟨rfl, rfl⟩
    · have d1 : decide (off < 0) = false := by simpa using h1
      by_cases h2 : 16777216 < off
      · have d2 : decide (16777216 < off) = true := by simpa using h2
        clear hb'
        go_enter Try.func22, Try.ntmps22
        go_wp2_with fail
        go_ret
        exact ⟨rfl, rfl⟩
      · have d2 : decide (16777216 < off) = false := by simpa using h2
        have d3 : decide (16777216 - off < (s.size : Int)) = true := by simp; omega
        clear hb'
        go_enter Try.func22, Try.ntmps22
        go_wp2_with fail
        go_ret
        exact ⟨rfl, rfl⟩
theorem write_off {w : World} {r : Rep} {d : DS} (h : IsDisk w r d) (ho : d.off = true) (off : Nat) (s : ByteArray) (hf : off + s.size ≤ 16777216) :
    Calls Try.prog 22 #[.pointer (some ⟨r.p, 0, none⟩), .int .i64 (off : Int), .string s] w fun e w' => e = .returned (.int .i64 70) ∧ w = w' := by
  have C1 := Lib.hid (call_off h ho)
  clear ho h
  have hg1 : decide ((16777216:Int) < (off:Int)) = false := by simp; omega
  have hg2 : decide ((16777216 : Int) - off < s.size) = false := by simp; omega
  have hz : decide ((off:Int) < 0) = false := by simp
  go_enter Try.func22, Try.ntmps22
  go_wp2_with fail
  refine C1.out.mono ?_
  rintro e w1 ⟨rfl, rfl⟩
  go_wp2_with fail
  go_ret
  exact ⟨rfl, rfl⟩
theorem sync_off {w : World} {r : Rep} {d : DS} (h : IsDisk w r d) (ho : d.off = true) :
    Calls Try.prog 23 #[.pointer (some ⟨r.p, 0, none⟩)] w fun e w' => e = .returned (.int .i64 70) ∧ w = w' := by
  have C1 := Lib.hid (call_off h ho)
  clear ho h
  go_enter Try.func23, Try.ntmps23
  go_wp2_with fail
  refine C1.out.mono ?_
  rintro e w1 ⟨rfl, rfl⟩
  go_wp2_with fail
  go_ret
  exact ⟨rfl, rfl⟩
end Go.Proofs.Ytbmmcdnmbdoglaa
