/- The two writes of Append. -/
import Derived.Test.YtbmmcdnmbdoglaaJ5
import Derived.Deep.RegionHeld3
import Derived.Laws.IdiomStrings
namespace Go.Proofs.Ytbmmcdnmbdoglaa
open Go.RowKit
set_option linter.unusedVariables false

theorem cell_kept {F : Nat → Prop} {w w' : World} (hk : Keep F w w') {a : Addr} {v : Value} (h : w.cell? a = some v) (hF : ¬ F a.block) : w'.cell? a = some v := (hk.cell (World.block_lt_of_cell? _ _ h) hF).trans h
theorem since_kept {w w' : World} (hk : Since w.heap.size w w') {a : Addr} {v : Value} (h : w.cell? a = some v) : w'.cell? a = some v :=
  cell_kept hk h (fun h' => by have h1 := World.block_lt_of_cell? _ _ h; exact Nat.lt_irrefl _ (Nat.lt_of_lt_of_le h1 h'))
theorem IsDisk.since {w w' : World} {r : Rep} {d : DS} (h : IsDisk w r d) (hs : Since w.heap.size w w') : IsDisk w' r d := h.keep hs (fun k hk hk' => Nat.lt_irrefl _ (Nat.lt_of_lt_of_le (h.foot_lt k hk) hk'))
theorem JD.cells {w : World} {jp : Nat} {r : Rep} {d : DS} {j : JS} (h : JD w jp r d j) : w.cell? ⟨jp, 0, none⟩ = some (.pointer (some ⟨r.p, 0, none⟩)) ∧ w.cell? ⟨jp, 1, none⟩ = some (.int .i64 (j.many : Int)) ∧ w.cell? ⟨jp, 2, none⟩ = some (.int .i64 (j.bytes : Int)) ∧ w.cell? ⟨jp, 3, none⟩ = some (.int .i64 (j.stop : Int)) ∧ w.cell? ⟨jp, 4, none⟩ = some (.bool j.broken) := by
  refine ⟨?_, ?_, ?_, ?_, ?_⟩ <;> (rw [blk_cell h.blk]; rfl)

set_option maxHeartbeats 1000000 in
set_option maxRecDepth 100000 in
theorem first_any {w : World} {jp B2 B3 : Nat} {r : Rep} {d : DS} {j : JS} (h : JD w jp r d j) (x : ByteArray) (hx : x.size ≤ 16777216) (hs : j.stop ≤ 33554432) (hf : d.few 100000000)
    (h2 : w.cell? ⟨B2, 0, none⟩ = some (.pointer (some ⟨jp, 0, none⟩))) (h3 : w.cell? ⟨B3, 0, none⟩ = some (.string x)) (hb2 : ¬ r.foot B2) (hb3 : ¬ r.foot B3) :
    Calls Try.prog 30 #[.pointer (some ⟨B2, 0, none⟩), .pointer (some ⟨B3, 0, none⟩)] w fun e w' => e = .returned (.int .i64 (d.doWrite j.stop (numL x.size 4 ++ bs x)).1) ∧ ∃ r', Step w r w' r' (d.doWrite j.stop (numL x.size 4 ++ bs x)).2 := by
  obtain ⟨c0, c1, c2, c3, c4⟩ := h.cells
  have HQ := Lib.hid (And.intro hb2 (And.intro hb3 h.q))
  have hadd : ∀ w, (Op.stringOp .add (sb (numL x.size 4)) x).run Try.prog w = .ok (.string (sb (numL x.size 4 ++ bs x))) w := by
    intro w
    rw [run_string_add_sum w _ _ (by rw [sb_size, numL_length]; omega)]
    congr 2
  have KC := Lib.hid (And.intro h2 (And.intro h3 (And.intro c0 c3)))
  have K := Lib.hid (keep_draw (fun k => w.heap.size ≤ k) w)
  have HW := Lib.hid (fun w' (hw' : Since w.heap.size w w') => write_step (h.disk.since hw') (j.stop : Int) (sb (numL x.size 4 ++ bs x)) (by omega) (by rw [sb_size, List.length_append, numL_length, bs_length]; omega) hf)
  have HST := Lib.hid (show ∀ w' w'' r', Since w.heap.size w w' → Step w' r w'' r' (d.doWrite j.stop (numL x.size 4 ++ bs x)).2 → Step w r w'' r' (d.doWrite j.stop (numL x.size 4 ++ bs x)).2 from fun w' w'' r' hw' hst =>
    ⟨hst.disk, hst.p, ⟨hst.keep.os.trans hw'.os, hst.keep.tape.trans hw'.tape, hst.keep.output.trans hw'.output, Nat.le_trans hw'.size hst.keep.size, fun i hi hn => (hst.keep.block i (Nat.lt_of_lt_of_le hi hw'.size) hn).trans (hw'.block i hi (fun h' => Nat.lt_irrefl _ (Nat.lt_of_lt_of_le hi h')))⟩, fun k hk => (hst.foot k hk).imp id (fun h' => Nat.le_trans hw'.size h')⟩)
  obtain ⟨X, hX⟩ : ∃ X, d.doWrite j.stop (numL x.size 4 ++ bs x) = X := ⟨_, rfl⟩
  rw [bs_sb, hX] at HW
  rw [hX] at HST ⊢
  have HADD := Lib.hid hadd
  clear h h2 h3 hb2 hb3 c0 c1 c2 c3 c4 hX hadd
  go_enter Try.func30, Try.ntmps30
  go_wp2_with fail
  have hadd := HADD.out
  go_region_held3 (fun w' => w'.cell? ⟨B2, 0, none⟩ = some (.pointer (some ⟨jp, 0, none⟩)) ∧ w'.cell? ⟨B3, 0, none⟩ = some (.string x) ∧ w'.cell? ⟨jp, 0, none⟩ = some (.pointer (some ⟨r.p, 0, none⟩)) ∧ w'.cell? ⟨jp, 3, none⟩ = some (.int .i64 (j.stop : Int))) (first | exact KC.out)
    (first
      | (go_at_call 31; refine (number_any _ x.size 4 (by omega) (by omega) (by omega)).mono ?_; rintro e wn ⟨rfl, hsr⟩; replace KC := Lib.hid (And.intro (since_kept hsr KC.out.1) (And.intro (since_kept hsr KC.out.2.1) (And.intro (since_kept hsr KC.out.2.2.1) (since_kept hsr KC.out.2.2.2)))); replace K := Lib.hid (Keep.trans K.out (Since.mono hsr K.out.size)); clear hsr)
      | (go_at_call 22; ((with_reducible refine (HW.out _ K.out).mono ?_); rintro e w8 ⟨rfl, r2, hst2⟩); have HS2 := Lib.hid (HST.out _ _ _ K.out hst2); replace KC := Lib.hid (And.intro (cell_kept hst2.keep KC.out.1 HQ.out.1) (And.intro (cell_kept hst2.keep KC.out.2.1 HQ.out.2.1) (And.intro (cell_kept hst2.keep KC.out.2.2.1 HQ.out.2.2) (cell_kept hst2.keep KC.out.2.2.2 HQ.out.2.2)))); clear hst2))
  all_goals clear hadd
  all_goals go_wp2_with fail
  all_goals go_ret
  all_goals exact ⟨rfl, r2, HS2.out⟩

set_option maxHeartbeats 1000000 in
set_option maxRecDepth 100000 in
theorem second_any {w : World} {jp B2 B3 : Nat} {r : Rep} {d : DS} {j : JS} (h : JD w jp r d j) (next : Nat) (hx : 64 ≤ next) (hx2 : next ≤ 33554432) (hf : d.few 100000000)
    (h2 : w.cell? ⟨B2, 0, none⟩ = some (.pointer (some ⟨jp, 0, none⟩))) (h3 : w.cell? ⟨B3, 0, none⟩ = some (.int .i64 (next : Int))) (hb2 : ¬ r.foot B2) (hb3 : ¬ r.foot B3) :
    Calls Try.prog 32 #[.pointer (some ⟨B2, 0, none⟩), .pointer (some ⟨B3, 0, none⟩)] w fun e w' => e = .returned (.int .i64 (d.doWrite 0 (numL (next - 64) 8)).1) ∧ ∃ r', Step w r w' r' (d.doWrite 0 (numL (next - 64) 8)).2 := by
  obtain ⟨c0, c1, c2, c3, c4⟩ := h.cells
  have HQ := Lib.hid (And.intro hb2 (And.intro hb3 h.q))
  have KC := Lib.hid (And.intro h2 (And.intro h3 c0))
  have K := Lib.hid (keep_draw (fun k => w.heap.size ≤ k) w)
  have HW := Lib.hid (fun w' (hw' : Since w.heap.size w w') => write_step (h.disk.since hw') 0 (sb (numL (next - 64) 8)) (by omega) (by rw [sb_size, numL_length]; omega) hf)
  have HST := Lib.hid (show ∀ w' w'' r', Since w.heap.size w w' → Step w' r w'' r' (d.doWrite 0 (numL (next - 64) 8)).2 → Step w r w'' r' (d.doWrite 0 (numL (next - 64) 8)).2 from fun w' w'' r' hw' hst =>
    ⟨hst.disk, hst.p, ⟨hst.keep.os.trans hw'.os, hst.keep.tape.trans hw'.tape, hst.keep.output.trans hw'.output, Nat.le_trans hw'.size hst.keep.size, fun i hi hn => (hst.keep.block i (Nat.lt_of_lt_of_le hi hw'.size) hn).trans (hw'.block i hi (fun h' => Nat.lt_irrefl _ (Nat.lt_of_lt_of_le hi h')))⟩, fun k hk => (hst.foot k hk).imp id (fun h' => Nat.le_trans hw'.size h')⟩)
  obtain ⟨X, hX⟩ : ∃ X, d.doWrite 0 (numL (next - 64) 8) = X := ⟨_, rfl⟩
  rw [bs_sb, hX] at HW
  rw [hX] at HST ⊢
  have hsub : IntKind.i64.wrap ((next : Int) - 64) = ((next - 64 : Nat) : Int) := by rw [IntKind.wrap_i64]; omega
  have HSUB := Lib.hid hsub
  clear h h2 h3 hb2 hb3 c0 c1 c2 c3 c4 hX hsub
  go_enter Try.func32, Try.ntmps32
  go_wp2_with fail
  have hsub := HSUB.out
  go_region_held3 (fun w' => w'.cell? ⟨B2, 0, none⟩ = some (.pointer (some ⟨jp, 0, none⟩)) ∧ w'.cell? ⟨B3, 0, none⟩ = some (.int .i64 (next : Int)) ∧ w'.cell? ⟨jp, 0, none⟩ = some (.pointer (some ⟨r.p, 0, none⟩))) (first | exact KC.out)
    (first
      | (go_at_call 31; refine (number_any _ (next - 64) 8 (by omega) (by omega) (by omega)).mono ?_; rintro e wn ⟨rfl, hsr⟩; replace KC := Lib.hid (And.intro (since_kept hsr KC.out.1) (And.intro (since_kept hsr KC.out.2.1) (since_kept hsr KC.out.2.2))); replace K := Lib.hid (Keep.trans K.out (Since.mono hsr K.out.size)); clear hsr)
      | (go_at_call 22; ((with_reducible refine (HW.out _ K.out).mono ?_); rintro e w8 ⟨rfl, r2, hst2⟩); have HS2 := Lib.hid (HST.out _ _ _ K.out hst2); replace KC := Lib.hid (And.intro (cell_kept hst2.keep KC.out.1 HQ.out.1) (And.intro (cell_kept hst2.keep KC.out.2.1 HQ.out.2.1) (cell_kept hst2.keep KC.out.2.2 HQ.out.2.2))); clear hst2))
  all_goals clear hsub
  all_goals go_wp2_with fail
  all_goals go_ret
  all_goals exact ⟨rfl, r2, HS2.out⟩
end Go.Proofs.Ytbmmcdnmbdoglaa
