/- DiskReads. -/
import Derived.Test.YthhcnfbolhoeaaaPlays
import Derived.Test.YthhcnfbolhoeaaaKM
namespace Go.Proofs.Ythhcnfbolhoeaaa
open Go.ChangeShapes Go.WideShapes Go.ChangeAt Go.RowKit
set_option linter.unusedVariables false

theorem four_keep {F : Nat → Prop} {w w' : World} {q b : Nat} {u v x0 x1 : Value} (hk : Keep F w w')
    (h : w.cell? ⟨q, 0, none⟩ = some u ∧ w.cell? ⟨q, 1, none⟩ = some v ∧ w.cell? ⟨b, 0, none⟩ = some x0 ∧ w.cell? ⟨b, 1, none⟩ = some x1) (hq : ¬ F q) (hb : ¬ F b) :
    w'.cell? ⟨q, 0, none⟩ = some u ∧ w'.cell? ⟨q, 1, none⟩ = some v ∧ w'.cell? ⟨b, 0, none⟩ = some x0 ∧ w'.cell? ⟨b, 1, none⟩ = some x1 :=
  ⟨cell_keep hk h.1 hq, cell_keep hk h.2.1 hq, cell_keep hk h.2.2.1 hb, cell_keep hk h.2.2.2 hb⟩
theorem cell_go {n : Nat} {w w' : World} {a : Addr} {v : Value} (h : Since n w w') (hc : w.cell? a = some v) (ha : a.block < n) : w'.cell? a = some v :=
  (h.cell (World.block_lt_of_cell? _ _ hc) (fun h' => by omega)).trans hc

set_option maxHeartbeats 1500000 in
set_option maxRecDepth 100000 in
theorem reads_walk (s : ByteArray) (at_ q0 q1 : Int) (hs : s.size ≤ 140737488351232) (ha : -9223372036854775808 ≤ at_ ∧ at_ ≤ 9223372036854775807) (h0 : -9223372036854775808 ≤ q0 ∧ q0 ≤ 9223372036854775807) (h1 : -9223372036854775808 ≤ q1 ∧ q1 ≤ 9223372036854775807) (w : World) :
    Calls Try.prog 10 #[.string s, .int .i64 at_, .agg #[.int .i64 q0, .int .i64 q1]] w fun e w' => e = .returned (.bool true) ∧ Below w.heap.size w w' := by
  obtain ⟨m, hm⟩ : ∃ m : Nat, at_ % 8 = m := ⟨(at_ % 8).toNat, by omega⟩
  have hm8 : m < 8 := by omega
  have MA := fun w => Lib.hid (hm ▸ mod_any w at_ 8 (by decide) (by decide) ha)
  obtain ⟨kk, hkk⟩ : ∃ k : Nat, q0 % 230 = k := ⟨(q0 % 230).toNat, by omega⟩
  have hkk2 : kk < 230 := by omega
  have M0 := fun w => Lib.hid (hkk ▸ mod_any w q0 230 (by decide) (by decide) h0)
  obtain ⟨vv, hvv⟩ : ∃ k : Nat, q1 % 20 = k := ⟨(q1 % 20).toNat, by omega⟩
  have hvv2 : vv < 20 := by omega
  have M1 := fun w => Lib.hid (hvv ▸ mod_any w q1 20 (by decide) (by decide) h1)
  clear hm hkk hvv
  go_enter Try.func10, Try.ntmps10
  go_wp2_with fail
  obtain ⟨w0, hw0⟩ : ∃ w0, w.alloc (.cells #[.int .i64 q0, .int .i64 q1] 42) = w0 := ⟨_, rfl⟩
  rw [hw0]
  have hs0 : Since w.heap.size w w0 := by rw [← hw0]; exact Since.of ((Keep.refl _ w).alloc' _)
  have hz0 : w0.heap.size = w.heap.size + 1 := by rw [← hw0]; simp
  have hb : w0.heap[w.heap.size]? = some (.cells #[.int .i64 q0, .int .i64 q1] 42 (0, 0)) := by rw [← hw0]; exact heap_alloc_new _ _
  have hc0 : w0.cell? ⟨w.heap.size, 0, none⟩ = some (.int .i64 q0) := by rw [blk_cell hb]; rfl
  have hc1 : w0.cell? ⟨w.heap.size, 1, none⟩ = some (.int .i64 q1) := by rw [blk_cell hb]; rfl
  have HC0 := Lib.hid hc0; have HC1 := Lib.hid hc1; have S0 := Lib.hid hs0; have HZ0 := Lib.hid hz0
  clear hc0 hc1 hs0 hz0 hb hw0
  refine (sanity_any w0).mono ?_
  rintro e w1 ⟨rfl, hs1⟩
  have S1 := Lib.hid hs1; clear hs1
  go_wp2_with fail
  refine (new_D w1).mono ?_
  rintro e w2 ⟨rfl, hd2, hs2⟩
  have D2 := Lib.hid hd2; have S2 := Lib.hid hs2; clear hd2 hs2
  go_wp2_with fail
  refine (new_ref w2).mono ?_
  rintro e w3 ⟨rfl, hw3⟩
  have hdk := desk_new D2.out S2.out hw3
  clear hw3
  go_wp2_with fail
  refine (MA _).out.mono ?_
  rintro e wx ⟨rfl, rfl⟩
  have S4 := Lib.hid (Keep.trans S1.out (Since.mono hdk.2 S1.out.size))
  have HDK := Lib.hid hdk.1
  have hdo := do_any hdk.1 (new_few.mono (by omega)) ⟨0, 1 + m, 0, s⟩ ⟨by unfold i64In; simp, by unfold i64In; simp only; omega, by unfold i64In; simp, by simp only; omega⟩
  simp only at hdo
  have HDO := Lib.hid hdo
  clear hdo hdk D2 S2
  go_wp2_with fail
  ((with_reducible refine HDO.out.mono ?_); rintro e w5 ⟨rfl, hd5, hs5⟩)
  obtain ⟨r, ρ, hd⟩ := hd5
  have HD := Lib.hid hd
  have S5 := Lib.hid (Keep.trans S4.out (Since.mono hs5 S1.out.size))
  have hc0 := cell_go S5.out HC0.out (by have := HZ0.out; simp only; omega)
  have hc1 := cell_go S5.out HC1.out (by have := HZ0.out; simp only; omega)
  have KC := Lib.hid (show w5.drew.cell? ⟨w3.heap.size, 0, none⟩ = some (.pointer (some ⟨r.p, 0, none⟩)) ∧ w5.drew.cell? ⟨w3.heap.size, 1, none⟩ = some (.pointer (some ⟨ρ.p, 0, none⟩)) ∧ w5.drew.cell? ⟨w.heap.size, 0, none⟩ = some (.int .i64 q0) ∧ w5.drew.cell? ⟨w.heap.size, 1, none⟩ = some (.int .i64 q1) from ⟨hd.cells.1, hd.cells.2, hc0, hc1⟩)
  have K := Lib.hid (keep_draw (fun _ => False) w5)
  clear hd hs5 hc1
  go_wp2_with fail
  refine (M0 w5).out.mono ?_
  rintro e wx ⟨rfl, rfl⟩
  clear hc0
  go_wp2_with fail
  simp only [List.append]
  go_region_held3 (fun w' => w'.cell? ⟨w3.heap.size, 0, none⟩ = some (.pointer (some ⟨r.p, 0, none⟩)) ∧ w'.cell? ⟨w3.heap.size, 1, none⟩ = some (.pointer (some ⟨ρ.p, 0, none⟩)) ∧ w'.cell? ⟨w.heap.size, 0, none⟩ = some (.int .i64 q0) ∧ w'.cell? ⟨w.heap.size, 1, none⟩ = some (.int .i64 q1)) (first | exact KC.out)
    (first
      | (go_at_call 22; refine (M1 _).out.mono ?_; rintro e wn ⟨rfl, rfl⟩)
      | (go_at_call 29; (first | (with_reducible refine (read_disk (HD.out.disk.keep K.out (fun _ _ => id)) q0 q1 h0 h1.2).mono ?_) | (with_reducible refine (read_disk (HD.out.disk.keep K.out (fun _ _ => id)) (kk : Int) q1 (by omega) h1.2).mono ?_) | (with_reducible refine (read_disk (HD.out.disk.keep K.out (fun _ _ => id)) (kk : Int) (vv : Int) (by omega) (by omega)).mono ?_)); rintro e wn ⟨rfl, mm, hwn⟩; have hkn := hwn ▸ keep_drewN (fun _ => False) _ mm; replace K := Lib.hid (Keep.trans K.out hkn); replace KC := Lib.hid (four_keep hkn KC.out id id); clear hkn hwn)
      | (go_at_call 31; (first | (with_reducible refine (rread (HD.out.ref.keep K.out (fun _ _ => id)) q0 q1 h0 h1.2).mono ?_) | (with_reducible refine (rread (HD.out.ref.keep K.out (fun _ _ => id)) (kk : Int) q1 (by omega) h1.2).mono ?_) | (with_reducible refine (rread (HD.out.ref.keep K.out (fun _ _ => id)) (kk : Int) (vv : Int) (by omega) (by omega)).mono ?_)); rintro e wn ⟨rfl, mm, hwn⟩; have hkn := hwn ▸ keep_drewN (fun _ => False) _ mm; replace K := Lib.hid (Keep.trans K.out hkn); replace KC := Lib.hid (four_keep hkn KC.out id id); clear hkn hwn))
  all_goals go_wp2_with fail
  all_goals go_ret
  all_goals exact ⟨rfl, below_since (Keep.trans S0.out (Since.mono (Keep.trans S5.out (Since.of K.out)) S0.out.size)) rfl⟩
set_option maxRecDepth 100000 in
theorem reads_lifted (os : Os) (started : os.Started) (H : Type) (enc : TypeId × Value → H) :
    ReturnsInHanded {} Try.checked os 10 .any (Rows.diskReadsSpec.pre6 enc Try.prog Try.f10 Rows.diskReadsRow.domain false) (Rows.diskReadsSpec.post enc Try.prog Try.f10 false true false false) := by
  refine law_lift (C := Try.checked) Try.own started (by kernel_rfl) Try.func10
    (ChangeSpec.witness6 (enc := enc) (C := Try.checked) false ⟨#[], #[.string ⟨#[]⟩, .int .i64 0, .agg #[.int .i64 0, .int .i64 0]], []⟩ 8 (by kernel_rfl) (by kernel_rfl) (by kernel_rfl) (by kernel_rfl))
    Try.laidOut (by kernel_rfl) rfl rfl Try.underlying4 ?_ ?_
  · intro ds hl
    match ds, hl with
    | [d1, d2, d3], _ => exact ⟨rfl, rfl, rfl⟩
  · intro W base args ds p hval0 hA0 hlt hsz0
    have hval : ∀ (j : Nat) t v, Try.f10.params[j]? = some t → args[j]? = some v → Value.okWide Try.prog W .any base t v := hval0
    have hA : DataW.TrodAll enc Try.prog W 0 (fun _ => true) true Try.f10.params.toList args.toList ds p := hA0
    have hsz : (DataW.weightsEach Try.prog Try.f10.params.toList ds).all (· ≤ reachBytes) = true := hsz0
    rw [Try.params10] at hA hval hsz
    clear hA0 hval0 hsz0
    obtain ⟨v0, v1, v2, d0, d1, d2, p0, p1, p2, rfl, rfl, rfl, h0, h1, h2⟩ := trodAll_three hA
    have hlt0 : ∀ x ∈ p0, x.block < W.heap.size := fun x hx => hlt x (by simp [hx])
    have hlt1 : ∀ x ∈ p1, x.block < W.heap.size := fun x hx => hlt x (by simp [hx])
    have hlt2 : ∀ x ∈ p2, x.block < W.heap.size := fun x hx => hlt x (by simp [hx])
    obtain ⟨s, rfl, zs⟩ := open_str Try.underlying9 (hval 0 9 v0 rfl rfl) h0 (fun b hd => sized_string hsz (j := 0) rfl (by simp [hd]))
    obtain ⟨a, rfl, rfl, rfl, wa⟩ := open_int Try.underlying3 (hval 1 3 v1 rfl rfl) h1
    obtain ⟨q0, q1, rfl, wq0, wq1⟩ := open_int_array2 Try.underlying42 Try.underlying3 (by kernel_rfl) (by kernel_rfl) (hval 2 42 v2 rfl rfl) h2
    exact reads_walk s a q0 q1 zs (bd_i64 wa) (bd_i64 wq0) (bd_i64 wq1) W

/-- The statement. -/
theorem reads_holds : Rows.DiskReadsSaid :=
  OpenClaim.holds_of_wide 10 Try.f10 rfl rfl rfl rfl rfl rfl rfl ⟨rfl, rfl, rfl, rfl, rfl⟩ rfl rfl rfl rfl rfl (by kernel_rfl) Try.func10 (by kernel_rfl)
    (of_decide_eq_true (by kernel_rfl)) (by unfold Func.isWrapper; first | (rw [if_pos (by decide +kernel)]; kernel_rfl) | (rw [if_neg (by decide +kernel)]; exact ⟨rfl, rfl⟩))
    (fun os started H enc _ => reads_lifted os started H enc)
#print axioms reads_holds
end Go.Proofs.Ythhcnfbolhoeaaa
