/- do, whatever the act; same; a new desk. -/
import Derived.Test.YthhcnfbolhoeaaaR9
namespace Go.Proofs.Ythhcnfbolhoeaaa
open Go.RowKit
set_option linter.unusedVariables false

theorem do_any {n : Nat} {w : World} {q : Nat} {d : DS} (h : DK n w q d) (hf : d.few 100000000) (a : Act') (ha : a.Ok) :
    Calls Try.prog 16 #[.pointer (some ⟨q, 0, none⟩), .agg #[.int .i64 a.kind, .int .i64 a.off, .int .i64 a.n, .string a.text]] w fun e w' => e = .returned (.bool true) ∧ DK n w' q (d.act a) ∧ Since n w w' := by
  obtain ⟨r, ρ, hd⟩ := h
  unfold DS.act
  by_cases h4 : a.kind % 8 = 4
  · rw [if_pos h4]; exact do_sync hd hf a ha h4
  rw [if_neg h4]
  by_cases h5 : a.kind % 8 = 5
  · rw [if_pos h5]; exact do_read hd hf a ha h5
  rw [if_neg h5]
  by_cases h6 : a.kind % 8 = 6
  · rw [if_pos h6]; exact do_fail hd hf a ha h6
  rw [if_neg h6]
  by_cases h7 : a.kind % 8 = 7
  · rw [if_pos h7]; exact do_crash hd hf a ha h7
  rw [if_neg h7]
  exact do_write hd hf a ha ⟨h4, h5, h6, h7⟩
theorem DS.few.mono {d : DS} {k m : Nat} (h : d.few k) (hk : k ≤ m) : d.few m := ⟨by have := h.1; omega, by have := h.2; omega⟩
theorem sync_few {d : DS} {k : Nat} (h : d.few k) : d.doSync.2.few (k + 1) := by
  unfold DS.doSync
  split
  · exact h.mono (by omega)
  · refine ⟨?_, Nat.zero_le _⟩
    show d.calls + 1 ≤ _
    have := h.1; omega
theorem write_few {d : DS} {k : Nat} (h : d.few k) (off : Int) (s : Bytes) (m : Nat) (hs : s.length ≤ m) (hm : 1 ≤ m) : (d.doWrite off s).2.few (k + m) := by
  unfold DS.doWrite
  split
  · split
    · exact h.mono (by omega)
    · refine ⟨?_, ?_⟩
      · show d.calls + 1 ≤ _
        have := h.1; omega
      · show (d.parts ++ pieces _ _).length ≤ _
        rw [List.length_append]
        have := pieces_length s.length off.toNat s (Nat.le_refl _)
        have := h.2; omega
  · exact h.mono (by omega)
theorem act_few {d : DS} {k : Nat} (h : d.few k) (a : Act') : (d.act a).few (k + 200) := by
  unfold DS.act
  split
  · exact (sync_few h).mono (by omega)
  split
  · exact h.mono (by omega)
  split
  · exact h.mono (by omega)
  split
  · exact ⟨by show (0 : Int) ≤ _; omega, Nat.zero_le _⟩
  · exact write_few h _ _ 200 (by rw [bs_length]; exact a.long_size) (by omega)
theorem new_few : DS.new.few 0 := ⟨by decide, by decide⟩

set_option maxHeartbeats 4000000 in
set_option maxRecDepth 100000 in
theorem same_any {n : Nat} {w : World} {q : Nat} {d : DS} (h : DK n w q d) : Calls Try.prog 21 #[.pointer (some ⟨q, 0, none⟩)] w fun e w' => e = .returned (.bool true) ∧ Keep (fun _ => False) w w' := by
  obtain ⟨r, ρ, hd⟩ := h
  have HD := Lib.hid hd
  have KC := Lib.hid hd.cells
  have K := Lib.hid (keep_draw (fun _ => False) w)
  clear hd
  go_enter Try.func21, Try.ntmps21
  go_wp2_with fail
  go_region_held3 (fun w' => w'.cell? ⟨q, 0, none⟩ = some (.pointer (some ⟨r.p, 0, none⟩)) ∧ w'.cell? ⟨q, 1, none⟩ = some (.pointer (some ⟨ρ.p, 0, none⟩))) (first | exact KC.out)
    (first
      | (go_at_call 17; refine (size_disk (HD.out.disk.keep K.out (fun _ _ => id))).mono ?_; rintro e wn ⟨rfl, rfl⟩)
      | (go_at_call 18; refine (size_ref (HD.out.ref.keep K.out (fun _ _ => id))).mono ?_; rintro e wn ⟨rfl, rfl⟩)
      | (go_at_call 19; refine (calls_disk (HD.out.disk.keep K.out (fun _ _ => id))).mono ?_; rintro e wn ⟨rfl, rfl⟩)
      | (go_at_call 20; refine (calls_ref (HD.out.ref.keep K.out (fun _ _ => id))).mono ?_; rintro e wn ⟨rfl, rfl⟩)
      | (go_at_call 29; refine (read_disk (HD.out.disk.keep K.out (fun _ _ => id)) 0 33554432 (by decide) (by decide)).mono ?_; rintro e wn ⟨rfl, mm, hwn⟩; have hkn := hwn ▸ keep_drewN (fun _ => False) _ mm; replace K := Lib.hid (Keep.trans K.out hkn); replace KC := Lib.hid (cell_two hkn KC.out id); clear hkn hwn)
      | (go_at_call 31; refine (rread (HD.out.ref.keep K.out (fun _ _ => id)) 0 33554432 (by decide) (by decide)).mono ?_; rintro e wn ⟨rfl, mm, hwn⟩; have hkn := hwn ▸ keep_drewN (fun _ => False) _ mm; replace K := Lib.hid (Keep.trans K.out hkn); replace KC := Lib.hid (cell_two hkn KC.out id); clear hkn hwn))
  all_goals go_wp2_with fail
  all_goals go_ret
  all_goals exact ⟨rfl, K.out⟩

/-- A desk of a new disk and a new model. -/
theorem desk_new {w w1 w2 : World} (hd : D w.heap.size w1 w.heap.size DS.new) (hs : Since w.heap.size w w1) (h2 : w1.alloc (.cells #[.string ⟨#[]⟩, .string ⟨#[]⟩, .slice none 0 0, .int .i64 0, .int .i64 0, .bool false] 66) = w2) :
    DK w.heap.size (w2.alloc (.cells #[.pointer (some ⟨w.heap.size, 0, none⟩), .pointer (some ⟨w1.heap.size, 0, none⟩)] 30)) w2.heap.size DS.new ∧ Since w.heap.size w (w2.alloc (.cells #[.pointer (some ⟨w.heap.size, 0, none⟩), .pointer (some ⟨w1.heap.size, 0, none⟩)] 30)) := by
  obtain ⟨r, hp, hd', hf⟩ := hd
  have hk1 : Keep (fun _ => False) w1 w2 := by rw [← h2]; exact (Keep.refl _ w1).alloc' _
  have hs2 : w2.heap.size = w1.heap.size + 1 := by rw [← h2]; simp
  have hk2 : Keep (fun _ => False) w2 (w2.alloc (.cells #[.pointer (some ⟨w.heap.size, 0, none⟩), .pointer (some ⟨w1.heap.size, 0, none⟩)] 30)) := (Keep.refl _ w2).alloc' _
  have hr : IsRef w2 ⟨w1.heap.size, .slice none 0 0, 0⟩ DS.new := by rw [← h2]; exact isRef_new w1
  have hfl := hd'.foot_lt
  have hrf : ∀ k, (⟨w1.heap.size, .slice none 0 0, 0⟩ : RRep).foot k → k = w1.heap.size := by
    rintro k (hk | hk)
    · exact hk
    · simp [Value.ownBlock] at hk
  have hsz := hs.size
  refine ⟨⟨r, ⟨w1.heap.size, .slice none 0 0, 0⟩, ?_, (hd'.keep hk1 (fun _ _ => id)).keep hk2 (fun _ _ => id), hr.keep hk2 (fun _ _ => id), ?_, ?_, ?_, ?_, hf, ?_⟩, Keep.trans hs (Since.of (Keep.trans hk1 hk2))⟩
  · rw [hp]; exact heap_alloc_new _ _
  · intro k h1 h2
    have := hfl k h1
    have := hrf k h2
    omega
  · intro h1
    have := hfl _ h1
    omega
  · intro h1
    have := hrf _ h1
    omega
  · omega
  · intro k h1
    have := hrf k h1
    omega
end Go.Proofs.Ythhcnfbolhoeaaa
