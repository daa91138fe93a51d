/- graph: right fields (the program's). -/
import Derived.Test.YtnbpgipbfejllaaDoorMG23
namespace Go.Proofs.YtnbpgipbfejllaaDoor
open Go.RowKit Go.Lib
set_option linter.unusedVariables false
set_option linter.unusedSimpArgs false

theorem RI.Fits.xy {w : World} {r : RI} (h : r.Fits w) (hx : r.x.names = xy) : ∃ g o, r.N = some ⟨g, o, none⟩ ∧ g < w.heap.size ∧ w.cell? ⟨g, o, none⟩ = some (.string (sb [120])) ∧ w.cell? ⟨g, o + 1, none⟩ = some (.string (sb [121])) := by
  have h2 := h.2.1
  rw [hx] at h2
  obtain ⟨g, o, e, hl, hc⟩ := h2.2.2 (by decide)
  exact ⟨g, o, e, hl, (hc 0 (by decide)).trans rfl, (hc 1 (by decide)).trans rfl⟩
set_option maxRecDepth 100000 in
set_option maxHeartbeats 64000000 in
theorem gfields_any {w : World} {T : TR} {P k : Nat} (r : RI) (hf : r.Fits w) (hs : Shape T P k r.x) (hP : P ≤ 4) : Calls Tryd.prog 66 #[.agg r.cells.toArray] w fun e w' => e = .returned (.bool true) ∧ Since w.heap.size w w' := by
  obtain ⟨x, A2, ca2, N2, cn2⟩ := r
  have hxy := fun h => RI.Fits.xy hf h
  dsimp only at hs hxy
  unfold RI.cells
  dsimp only
  clear hf
  cases hs with
  | param hk =>
    clear hxy
    have c1 : decide ((k : Int) < 0) = false := by simp
    have c2 : decide ((k : Int) ≥ 24) = false := by simp; omega
    have c3 : decide (24 ≤ (k : Int)) = false := by simp; omega
    have c4 : decide (24 ≤ k) = false := by simp; omega
    clear hk
    have HL := Lib.hid (limits_at (op := 1) (lo := 0) (hi := 0) (by simp [limT]))
    have HO := Lib.hid (show ∀ w, Calls Tryd.prog 59 #[.int .i64 1] w (fun e w' => e = .returned (.int .i64 0) ∧ w = w') from operands_any 1)
    have HB := Lib.hid (heap_alloc_new w (.cells #[.int .i64 1, .int .i64 0, .int .i64 0, .int .i64 0, .int .i64 0, .slice A2 0 ca2, .int .i64 3, .int .i64 (k : Int), .string ⟨#[]⟩, .slice N2 0 cn2, .int .i64 0, .int .i64 0, .int .i64 (-1), .bool false] 60))
    have HK := Lib.hid ((Keep.refl (fun _ => False) w).alloc' (.cells #[.int .i64 1, .int .i64 0, .int .i64 0, .int .i64 0, .int .i64 0, .slice A2 0 ca2, .int .i64 3, .int .i64 (k : Int), .string ⟨#[]⟩, .slice N2 0 cn2, .int .i64 0, .int .i64 0, .int .i64 (-1), .bool false] 60))
    rw [show sb [] = (⟨#[]⟩ : ByteArray) from rfl]
    go_enter Tryd.func66, Tryd.ntmps66
    go_wp2_with fail
    ((with_reducible refine (HL.out _).mono ?_); rintro ee w' ⟨rfl, rfl⟩)
    go_wp2_with fail
    ((with_reducible refine (HO.out _).mono ?_); rintro ee w' ⟨rfl, rfl⟩)
    go_wp2_with fail
    go_ret
    exact ⟨rfl, Since.of HK.out⟩
  | const kk kn ks once hk =>
    clear hxy
    have HCK : Hid (ConstK kk kn ks) := Lib.hid hk
    clear hk
    have HL := Lib.hid (limits_at (op := 2) (lo := 0) (hi := 0) (by simp [limT]))
    have HO := Lib.hid (show ∀ w, Calls Tryd.prog 59 #[.int .i64 2] w (fun e w' => e = .returned (.int .i64 0) ∧ w = w') from operands_any 2)
    have HB := Lib.hid (heap_alloc_new w (.cells #[.int .i64 2, .int .i64 0, .int .i64 0, .int .i64 0, .int .i64 0, .slice A2 0 ca2, .int .i64 kk, .int .i64 kn, .string (sb ks), .slice N2 0 cn2, .int .i64 0, .int .i64 0, .int .i64 (-1), .bool once] 60))
    have HK := Lib.hid ((Keep.refl (fun _ => False) w).alloc' (.cells #[.int .i64 2, .int .i64 0, .int .i64 0, .int .i64 0, .int .i64 0, .slice A2 0 ca2, .int .i64 kk, .int .i64 kn, .string (sb ks), .slice N2 0 cn2, .int .i64 0, .int .i64 0, .int .i64 (-1), .bool once] 60))
    have HC := Lib.hid (fun w => gconst_any HCK.out w)
    go_enter Tryd.func66, Tryd.ntmps66
    go_wp2_with fail
    ((with_reducible refine (HL.out _).mono ?_); rintro ee w' ⟨rfl, rfl⟩)
    go_wp2_with fail
    ((with_reducible refine (HO.out _).mono ?_); rintro ee w' ⟨rfl, rfl⟩)
    go_wp2_with fail
    ((with_reducible refine (HC.out _).mono ?_); rintro ee w' ⟨rfl, hk⟩)
    have HB2 := Lib.hid ((hk.block _ (by simp) (by simp)).trans HB.out)
    have HK2 := Lib.hid (Keep.trans (Since.of (n := w.heap.size) HK.out) (Since.mono hk HK.out.size))
    clear hk HB HK HC
    have hcc : ∀ i, w'.cell? ⟨w.heap.size, i, none⟩ = _ := fun i => blk_cell HB2.out i
    have q0 : w'.cell? ⟨w.heap.size, 0, none⟩ = some (.int .i64 2) := (hcc 0).trans rfl
    have q8 : w'.cell? ⟨w.heap.size, 8, none⟩ = some (.string (sb ks)) := (hcc 8).trans rfl
    have q9 : w'.cell? ⟨w.heap.size, 9, none⟩ = some (.slice N2 0 cn2) := (hcc 9).trans rfl
    have q10 : w'.cell? ⟨w.heap.size, 10, none⟩ = some (.int .i64 0) := (hcc 10).trans rfl
    have q11 : w'.cell? ⟨w.heap.size, 11, none⟩ = some (.int .i64 0) := (hcc 11).trans rfl
    clear hcc
    go_wp2_with fail
    go_ret
    exact ⟨rfl, HK2.out⟩
  | unary a n ex once hv hn hx =>
    clear hxy
    have c1 : decide (n < 3) = false := by simp; omega
    have c2 : decide (4 < n) = false := by simp; omega
    clear hv hn hx
    have HL := Lib.hid (limits_at (op := 3) (lo := 3) (hi := 4) (by simp [limT]))
    have HO := Lib.hid (show ∀ w, Calls Tryd.prog 59 #[.int .i64 3] w (fun e w' => e = .returned (.int .i64 1) ∧ w = w') from operands_any 3)
    have HB := Lib.hid (heap_alloc_new w (.cells #[.int .i64 3, .int .i64 a, .int .i64 0, .int .i64 0, .int .i64 n, .slice A2 0 ca2, .int .i64 0, .int .i64 0, .string ⟨#[]⟩, .slice N2 0 cn2, .int .i64 0, .int .i64 0, .int .i64 ex, .bool once] 60))
    have HK := Lib.hid ((Keep.refl (fun _ => False) w).alloc' (.cells #[.int .i64 3, .int .i64 a, .int .i64 0, .int .i64 0, .int .i64 n, .slice A2 0 ca2, .int .i64 0, .int .i64 0, .string ⟨#[]⟩, .slice N2 0 cn2, .int .i64 0, .int .i64 0, .int .i64 ex, .bool once] 60))
    rw [show sb [] = (⟨#[]⟩ : ByteArray) from rfl]
    go_enter Tryd.func66, Tryd.ntmps66
    go_wp2_with fail
    ((with_reducible refine (HL.out _).mono ?_); rintro ee w' ⟨rfl, rfl⟩)
    go_wp2_with fail
    ((with_reducible refine (HO.out _).mono ?_); rintro ee w' ⟨rfl, rfl⟩)
    go_wp2_with fail
    go_ret
    exact ⟨rfl, Since.of HK.out⟩
  | binary a b n ex once hv hv2 hn hx =>
    clear hxy
    have c1 : decide (n < 5) = false := by simp; omega
    have c2 : decide (14 < n) = false := by simp; omega
    clear hv hv2 hn hx
    have HL := Lib.hid (limits_at (op := 4) (lo := 5) (hi := 14) (by simp [limT]))
    have HO := Lib.hid (show ∀ w, Calls Tryd.prog 59 #[.int .i64 4] w (fun e w' => e = .returned (.int .i64 2) ∧ w = w') from operands_any 4)
    have HB := Lib.hid (heap_alloc_new w (.cells #[.int .i64 4, .int .i64 a, .int .i64 b, .int .i64 0, .int .i64 n, .slice A2 0 ca2, .int .i64 0, .int .i64 0, .string ⟨#[]⟩, .slice N2 0 cn2, .int .i64 0, .int .i64 0, .int .i64 ex, .bool once] 60))
    have HK := Lib.hid ((Keep.refl (fun _ => False) w).alloc' (.cells #[.int .i64 4, .int .i64 a, .int .i64 b, .int .i64 0, .int .i64 n, .slice A2 0 ca2, .int .i64 0, .int .i64 0, .string ⟨#[]⟩, .slice N2 0 cn2, .int .i64 0, .int .i64 0, .int .i64 ex, .bool once] 60))
    rw [show sb [] = (⟨#[]⟩ : ByteArray) from rfl]
    go_enter Tryd.func66, Tryd.ntmps66
    go_wp2_with fail
    ((with_reducible refine (HL.out _).mono ?_); rintro ee w' ⟨rfl, rfl⟩)
    go_wp2_with fail
    ((with_reducible refine (HO.out _).mono ?_); rintro ee w' ⟨rfl, rfl⟩)
    go_wp2_with fail
    go_ret
    exact ⟨rfl, Since.of HK.out⟩
  | guard a n ex once hv hn hx =>
    clear hxy
    have c1 : decide (n < 0) = false := by simp; omega
    have c2 : decide (1 < n) = false := by simp; omega
    clear hv hn hx
    have HL := Lib.hid (limits_at (op := 5) (lo := 0) (hi := 1) (by simp [limT]))
    have HO := Lib.hid (show ∀ w, Calls Tryd.prog 59 #[.int .i64 5] w (fun e w' => e = .returned (.int .i64 1) ∧ w = w') from operands_any 5)
    have HB := Lib.hid (heap_alloc_new w (.cells #[.int .i64 5, .int .i64 a, .int .i64 0, .int .i64 0, .int .i64 n, .slice A2 0 ca2, .int .i64 0, .int .i64 0, .string ⟨#[]⟩, .slice N2 0 cn2, .int .i64 0, .int .i64 0, .int .i64 ex, .bool once] 60))
    have HK := Lib.hid ((Keep.refl (fun _ => False) w).alloc' (.cells #[.int .i64 5, .int .i64 a, .int .i64 0, .int .i64 0, .int .i64 n, .slice A2 0 ca2, .int .i64 0, .int .i64 0, .string ⟨#[]⟩, .slice N2 0 cn2, .int .i64 0, .int .i64 0, .int .i64 ex, .bool once] 60))
    rw [show sb [] = (⟨#[]⟩ : ByteArray) from rfl]
    go_enter Tryd.func66, Tryd.ntmps66
    go_wp2_with fail
    ((with_reducible refine (HL.out _).mono ?_); rintro ee w' ⟨rfl, rfl⟩)
    go_wp2_with fail
    ((with_reducible refine (HO.out _).mono ?_); rintro ee w' ⟨rfl, rfl⟩)
    go_wp2_with fail
    go_ret
    exact ⟨rfl, Since.of HK.out⟩
  | kind a n ex once hv hn hx =>
    clear hxy
    have c1 : decide (n < 1) = false := by simp; omega
    have c2 : decide (6 < n) = false := by simp; omega
    clear hv hn hx
    have HL := Lib.hid (limits_at (op := 6) (lo := 1) (hi := 6) (by simp [limT]))
    have HO := Lib.hid (show ∀ w, Calls Tryd.prog 59 #[.int .i64 6] w (fun e w' => e = .returned (.int .i64 1) ∧ w = w') from operands_any 6)
    have HB := Lib.hid (heap_alloc_new w (.cells #[.int .i64 6, .int .i64 a, .int .i64 0, .int .i64 0, .int .i64 n, .slice A2 0 ca2, .int .i64 0, .int .i64 0, .string ⟨#[]⟩, .slice N2 0 cn2, .int .i64 0, .int .i64 0, .int .i64 ex, .bool once] 60))
    have HK := Lib.hid ((Keep.refl (fun _ => False) w).alloc' (.cells #[.int .i64 6, .int .i64 a, .int .i64 0, .int .i64 0, .int .i64 n, .slice A2 0 ca2, .int .i64 0, .int .i64 0, .string ⟨#[]⟩, .slice N2 0 cn2, .int .i64 0, .int .i64 0, .int .i64 ex, .bool once] 60))
    rw [show sb [] = (⟨#[]⟩ : ByteArray) from rfl]
    go_enter Tryd.func66, Tryd.ntmps66
    go_wp2_with fail
    ((with_reducible refine (HL.out _).mono ?_); rintro ee w' ⟨rfl, rfl⟩)
    go_wp2_with fail
    ((with_reducible refine (HO.out _).mono ?_); rintro ee w' ⟨rfl, rfl⟩)
    go_wp2_with fail
    go_ret
    exact ⟨rfl, Since.of HK.out⟩
  | shape a ex once hv hx =>
    obtain ⟨g, o, rfl, hgl, q0, q1⟩ := hxy rfl
    clear hxy
    clear hv hx
    have HL := Lib.hid (limits_at (op := 7) (lo := 0) (hi := 9223372036854775807) (by simp [limT]))
    have HO := Lib.hid (show ∀ w, Calls Tryd.prog 59 #[.int .i64 7] w (fun e w' => e = .returned (.int .i64 1) ∧ w = w') from operands_any 7)
    have HB := Lib.hid (heap_alloc_new w (.cells #[.int .i64 7, .int .i64 a, .int .i64 0, .int .i64 0, .int .i64 0, .slice A2 0 ca2, .int .i64 0, .int .i64 0, .string ⟨#[]⟩, .slice (some ⟨g, o, none⟩) 2 cn2, .int .i64 0, .int .i64 0, .int .i64 ex, .bool once] 60))
    have HK := Lib.hid ((Keep.refl (fun _ => False) w).alloc' (.cells #[.int .i64 7, .int .i64 a, .int .i64 0, .int .i64 0, .int .i64 0, .slice A2 0 ca2, .int .i64 0, .int .i64 0, .string ⟨#[]⟩, .slice (some ⟨g, o, none⟩) 2 cn2, .int .i64 0, .int .i64 0, .int .i64 ex, .bool once] 60))
    have HD := Lib.hid (distinct_xy cn2 ((HK.out.cell (p := ⟨g, o, none⟩) hgl id).trans q0) ((HK.out.cell (p := ⟨g, o + 1, none⟩) hgl id).trans q1))
    rw [show sb [] = (⟨#[]⟩ : ByteArray) from rfl]
    rw [show xy.length = 2 from rfl]
    go_enter Tryd.func66, Tryd.ntmps66
    go_wp2_with fail
    ((with_reducible refine (HL.out _).mono ?_); rintro ee w' ⟨rfl, rfl⟩)
    go_wp2_with fail
    ((with_reducible refine (HO.out _).mono ?_); rintro ee w' ⟨rfl, rfl⟩)
    go_wp2_with fail
    ((with_reducible refine HD.out.mono ?_); rintro ee w' ⟨rfl, rfl⟩)
    go_wp2_with fail
    go_ret
    exact ⟨rfl, Since.of HK.out⟩
  | arr a ex once hv hx =>
    clear hxy
    clear hv hx
    have HL := Lib.hid (limits_at (op := 8) (lo := 0) (hi := 0) (by simp [limT]))
    have HO := Lib.hid (show ∀ w, Calls Tryd.prog 59 #[.int .i64 8] w (fun e w' => e = .returned (.int .i64 1) ∧ w = w') from operands_any 8)
    have HB := Lib.hid (heap_alloc_new w (.cells #[.int .i64 8, .int .i64 a, .int .i64 0, .int .i64 0, .int .i64 0, .slice A2 0 ca2, .int .i64 0, .int .i64 0, .string ⟨#[]⟩, .slice N2 0 cn2, .int .i64 0, .int .i64 0, .int .i64 ex, .bool once] 60))
    have HK := Lib.hid ((Keep.refl (fun _ => False) w).alloc' (.cells #[.int .i64 8, .int .i64 a, .int .i64 0, .int .i64 0, .int .i64 0, .slice A2 0 ca2, .int .i64 0, .int .i64 0, .string ⟨#[]⟩, .slice N2 0 cn2, .int .i64 0, .int .i64 0, .int .i64 ex, .bool once] 60))
    rw [show sb [] = (⟨#[]⟩ : ByteArray) from rfl]
    go_enter Tryd.func66, Tryd.ntmps66
    go_wp2_with fail
    ((with_reducible refine (HL.out _).mono ?_); rintro ee w' ⟨rfl, rfl⟩)
    go_wp2_with fail
    ((with_reducible refine (HO.out _).mono ?_); rintro ee w' ⟨rfl, rfl⟩)
    go_wp2_with fail
    go_ret
    exact ⟨rfl, Since.of HK.out⟩
  | bounds a b ex once hv hv2 hx =>
    clear hxy
    clear hv hv2 hx
    have HL := Lib.hid (limits_at (op := 9) (lo := 0) (hi := 0) (by simp [limT]))
    have HO := Lib.hid (show ∀ w, Calls Tryd.prog 59 #[.int .i64 9] w (fun e w' => e = .returned (.int .i64 2) ∧ w = w') from operands_any 9)
    have HB := Lib.hid (heap_alloc_new w (.cells #[.int .i64 9, .int .i64 a, .int .i64 b, .int .i64 0, .int .i64 0, .slice A2 0 ca2, .int .i64 0, .int .i64 0, .string ⟨#[]⟩, .slice N2 0 cn2, .int .i64 0, .int .i64 0, .int .i64 ex, .bool once] 60))
    have HK := Lib.hid ((Keep.refl (fun _ => False) w).alloc' (.cells #[.int .i64 9, .int .i64 a, .int .i64 b, .int .i64 0, .int .i64 0, .slice A2 0 ca2, .int .i64 0, .int .i64 0, .string ⟨#[]⟩, .slice N2 0 cn2, .int .i64 0, .int .i64 0, .int .i64 ex, .bool once] 60))
    rw [show sb [] = (⟨#[]⟩ : ByteArray) from rfl]
    go_enter Tryd.func66, Tryd.ntmps66
    go_wp2_with fail
    ((with_reducible refine (HL.out _).mono ?_); rintro ee w' ⟨rfl, rfl⟩)
    go_wp2_with fail
    ((with_reducible refine (HO.out _).mono ?_); rintro ee w' ⟨rfl, rfl⟩)
    go_wp2_with fail
    go_ret
    exact ⟨rfl, Since.of HK.out⟩
  | load a n once hv hn =>
    clear hxy
    have c1 : decide (n < 0) = false := by simp; omega
    have c2 : decide (63 < n) = false := by simp; omega
    clear hv hn
    have HL := Lib.hid (limits_at (op := 10) (lo := 0) (hi := 63) (by simp [limT]))
    have HO := Lib.hid (show ∀ w, Calls Tryd.prog 59 #[.int .i64 10] w (fun e w' => e = .returned (.int .i64 1) ∧ w = w') from operands_any 10)
    have HB := Lib.hid (heap_alloc_new w (.cells #[.int .i64 10, .int .i64 a, .int .i64 0, .int .i64 0, .int .i64 n, .slice A2 0 ca2, .int .i64 0, .int .i64 0, .string ⟨#[]⟩, .slice N2 0 cn2, .int .i64 0, .int .i64 0, .int .i64 (-1), .bool once] 60))
    have HK := Lib.hid ((Keep.refl (fun _ => False) w).alloc' (.cells #[.int .i64 10, .int .i64 a, .int .i64 0, .int .i64 0, .int .i64 n, .slice A2 0 ca2, .int .i64 0, .int .i64 0, .string ⟨#[]⟩, .slice N2 0 cn2, .int .i64 0, .int .i64 0, .int .i64 (-1), .bool once] 60))
    rw [show sb [] = (⟨#[]⟩ : ByteArray) from rfl]
    go_enter Tryd.func66, Tryd.ntmps66
    go_wp2_with fail
    ((with_reducible refine (HL.out _).mono ?_); rintro ee w' ⟨rfl, rfl⟩)
    go_wp2_with fail
    ((with_reducible refine (HO.out _).mono ?_); rintro ee w' ⟨rfl, rfl⟩)
    go_wp2_with fail
    go_ret
    exact ⟨rfl, Since.of HK.out⟩
  | store a b n hv hv2 hn =>
    clear hxy
    have c1 : decide (n < 0) = false := by simp; omega
    have c2 : decide (63 < n) = false := by simp; omega
    clear hv hv2 hn
    have HL := Lib.hid (limits_at (op := 11) (lo := 0) (hi := 63) (by simp [limT]))
    have HO := Lib.hid (show ∀ w, Calls Tryd.prog 59 #[.int .i64 11] w (fun e w' => e = .returned (.int .i64 2) ∧ w = w') from operands_any 11)
    have HB := Lib.hid (heap_alloc_new w (.cells #[.int .i64 11, .int .i64 a, .int .i64 b, .int .i64 0, .int .i64 n, .slice A2 0 ca2, .int .i64 0, .int .i64 0, .string ⟨#[]⟩, .slice N2 0 cn2, .int .i64 0, .int .i64 0, .int .i64 (-1), .bool false] 60))
    have HK := Lib.hid ((Keep.refl (fun _ => False) w).alloc' (.cells #[.int .i64 11, .int .i64 a, .int .i64 b, .int .i64 0, .int .i64 n, .slice A2 0 ca2, .int .i64 0, .int .i64 0, .string ⟨#[]⟩, .slice N2 0 cn2, .int .i64 0, .int .i64 0, .int .i64 (-1), .bool false] 60))
    rw [show sb [] = (⟨#[]⟩ : ByteArray) from rfl]
    go_enter Tryd.func66, Tryd.ntmps66
    go_wp2_with fail
    ((with_reducible refine (HL.out _).mono ?_); rintro ee w' ⟨rfl, rfl⟩)
    go_wp2_with fail
    ((with_reducible refine (HO.out _).mono ?_); rintro ee w' ⟨rfl, rfl⟩)
    go_wp2_with fail
    go_ret
    exact ⟨rfl, Since.of HK.out⟩
  | at_ a b once hv hv2 =>
    clear hxy
    clear hv hv2
    have HL := Lib.hid (limits_at (op := 12) (lo := 0) (hi := 0) (by simp [limT]))
    have HO := Lib.hid (show ∀ w, Calls Tryd.prog 59 #[.int .i64 12] w (fun e w' => e = .returned (.int .i64 2) ∧ w = w') from operands_any 12)
    have HB := Lib.hid (heap_alloc_new w (.cells #[.int .i64 12, .int .i64 a, .int .i64 b, .int .i64 0, .int .i64 0, .slice A2 0 ca2, .int .i64 0, .int .i64 0, .string ⟨#[]⟩, .slice N2 0 cn2, .int .i64 0, .int .i64 0, .int .i64 (-1), .bool once] 60))
    have HK := Lib.hid ((Keep.refl (fun _ => False) w).alloc' (.cells #[.int .i64 12, .int .i64 a, .int .i64 b, .int .i64 0, .int .i64 0, .slice A2 0 ca2, .int .i64 0, .int .i64 0, .string ⟨#[]⟩, .slice N2 0 cn2, .int .i64 0, .int .i64 0, .int .i64 (-1), .bool once] 60))
    rw [show sb [] = (⟨#[]⟩ : ByteArray) from rfl]
    go_enter Tryd.func66, Tryd.ntmps66
    go_wp2_with fail
    ((with_reducible refine (HL.out _).mono ?_); rintro ee w' ⟨rfl, rfl⟩)
    go_wp2_with fail
    ((with_reducible refine (HO.out _).mono ?_); rintro ee w' ⟨rfl, rfl⟩)
    go_wp2_with fail
    go_ret
    exact ⟨rfl, Since.of HK.out⟩
  | put a b c hv hv2 hv3 =>
    clear hxy
    clear hv hv2 hv3
    have HL := Lib.hid (limits_at (op := 13) (lo := 0) (hi := 0) (by simp [limT]))
    have HO := Lib.hid (show ∀ w, Calls Tryd.prog 59 #[.int .i64 13] w (fun e w' => e = .returned (.int .i64 3) ∧ w = w') from operands_any 13)
    have HB := Lib.hid (heap_alloc_new w (.cells #[.int .i64 13, .int .i64 a, .int .i64 b, .int .i64 c, .int .i64 0, .slice A2 0 ca2, .int .i64 0, .int .i64 0, .string ⟨#[]⟩, .slice N2 0 cn2, .int .i64 0, .int .i64 0, .int .i64 (-1), .bool false] 60))
    have HK := Lib.hid ((Keep.refl (fun _ => False) w).alloc' (.cells #[.int .i64 13, .int .i64 a, .int .i64 b, .int .i64 c, .int .i64 0, .slice A2 0 ca2, .int .i64 0, .int .i64 0, .string ⟨#[]⟩, .slice N2 0 cn2, .int .i64 0, .int .i64 0, .int .i64 (-1), .bool false] 60))
    rw [show sb [] = (⟨#[]⟩ : ByteArray) from rfl]
    go_enter Tryd.func66, Tryd.ntmps66
    go_wp2_with fail
    ((with_reducible refine (HL.out _).mono ?_); rintro ee w' ⟨rfl, rfl⟩)
    go_wp2_with fail
    ((with_reducible refine (HO.out _).mono ?_); rintro ee w' ⟨rfl, rfl⟩)
    go_wp2_with fail
    go_ret
    exact ⟨rfl, Since.of HK.out⟩
  | len a once hv =>
    clear hxy
    clear hv
    have HL := Lib.hid (limits_at (op := 14) (lo := 0) (hi := 0) (by simp [limT]))
    have HO := Lib.hid (show ∀ w, Calls Tryd.prog 59 #[.int .i64 14] w (fun e w' => e = .returned (.int .i64 1) ∧ w = w') from operands_any 14)
    have HB := Lib.hid (heap_alloc_new w (.cells #[.int .i64 14, .int .i64 a, .int .i64 0, .int .i64 0, .int .i64 0, .slice A2 0 ca2, .int .i64 0, .int .i64 0, .string ⟨#[]⟩, .slice N2 0 cn2, .int .i64 0, .int .i64 0, .int .i64 (-1), .bool once] 60))
    have HK := Lib.hid ((Keep.refl (fun _ => False) w).alloc' (.cells #[.int .i64 14, .int .i64 a, .int .i64 0, .int .i64 0, .int .i64 0, .slice A2 0 ca2, .int .i64 0, .int .i64 0, .string ⟨#[]⟩, .slice N2 0 cn2, .int .i64 0, .int .i64 0, .int .i64 (-1), .bool once] 60))
    rw [show sb [] = (⟨#[]⟩ : ByteArray) from rfl]
    go_enter Tryd.func66, Tryd.ntmps66
    go_wp2_with fail
    ((with_reducible refine (HL.out _).mono ?_); rintro ee w' ⟨rfl, rfl⟩)
    go_wp2_with fail
    ((with_reducible refine (HO.out _).mono ?_); rintro ee w' ⟨rfl, rfl⟩)
    go_wp2_with fail
    go_ret
    exact ⟨rfl, Since.of HK.out⟩
  | bytes ex hx =>
    clear hxy
    clear hx
    have HL := Lib.hid (limits_at (op := 15) (lo := 0) (hi := 600) (by simp [limT]))
    have HO := Lib.hid (show ∀ w, Calls Tryd.prog 59 #[.int .i64 15] w (fun e w' => e = .returned (.int .i64 0) ∧ w = w') from operands_any 15)
    have HB := Lib.hid (heap_alloc_new w (.cells #[.int .i64 15, .int .i64 0, .int .i64 0, .int .i64 0, .int .i64 32, .slice A2 0 ca2, .int .i64 0, .int .i64 0, .string ⟨#[]⟩, .slice N2 0 cn2, .int .i64 0, .int .i64 0, .int .i64 ex, .bool false] 60))
    have HK := Lib.hid ((Keep.refl (fun _ => False) w).alloc' (.cells #[.int .i64 15, .int .i64 0, .int .i64 0, .int .i64 0, .int .i64 32, .slice A2 0 ca2, .int .i64 0, .int .i64 0, .string ⟨#[]⟩, .slice N2 0 cn2, .int .i64 0, .int .i64 0, .int .i64 ex, .bool false] 60))
    rw [show sb [] = (⟨#[]⟩ : ByteArray) from rfl]
    go_enter Tryd.func66, Tryd.ntmps66
    go_wp2_with fail
    ((with_reducible refine (HL.out _).mono ?_); rintro ee w' ⟨rfl, rfl⟩)
    go_wp2_with fail
    ((with_reducible refine (HO.out _).mono ?_); rintro ee w' ⟨rfl, rfl⟩)
    go_wp2_with fail
    go_ret
    exact ⟨rfl, Since.of HK.out⟩
  | new =>
    obtain ⟨g, o, rfl, hgl, q0, q1⟩ := hxy rfl
    clear hxy
    have HL := Lib.hid (limits_at (op := 16) (lo := 0) (hi := 9223372036854775807) (by simp [limT]))
    have HO := Lib.hid (show ∀ w, Calls Tryd.prog 59 #[.int .i64 16] w (fun e w' => e = .returned (.int .i64 0) ∧ w = w') from operands_any 16)
    have HB := Lib.hid (heap_alloc_new w (.cells #[.int .i64 16, .int .i64 0, .int .i64 0, .int .i64 0, .int .i64 0, .slice A2 0 ca2, .int .i64 0, .int .i64 0, .string ⟨#[]⟩, .slice (some ⟨g, o, none⟩) 2 cn2, .int .i64 0, .int .i64 0, .int .i64 (-1), .bool false] 60))
    have HK := Lib.hid ((Keep.refl (fun _ => False) w).alloc' (.cells #[.int .i64 16, .int .i64 0, .int .i64 0, .int .i64 0, .int .i64 0, .slice A2 0 ca2, .int .i64 0, .int .i64 0, .string ⟨#[]⟩, .slice (some ⟨g, o, none⟩) 2 cn2, .int .i64 0, .int .i64 0, .int .i64 (-1), .bool false] 60))
    have HD := Lib.hid (distinct_xy cn2 ((HK.out.cell (p := ⟨g, o, none⟩) hgl id).trans q0) ((HK.out.cell (p := ⟨g, o + 1, none⟩) hgl id).trans q1))
    rw [show sb [] = (⟨#[]⟩ : ByteArray) from rfl]
    rw [show xy.length = 2 from rfl]
    go_enter Tryd.func66, Tryd.ntmps66
    go_wp2_with fail
    ((with_reducible refine (HL.out _).mono ?_); rintro ee w' ⟨rfl, rfl⟩)
    go_wp2_with fail
    ((with_reducible refine (HO.out _).mono ?_); rintro ee w' ⟨rfl, rfl⟩)
    go_wp2_with fail
    ((with_reducible refine HD.out.mono ?_); rintro ee w' ⟨rfl, rfl⟩)
    go_wp2_with fail
    go_ret
    exact ⟨rfl, Since.of HK.out⟩
  | fuel n ex hn hx =>
    clear hxy
    have c1 : decide (n < 1) = false := by simp; omega
    have c2 : decide (200 < n) = false := by simp; omega
    clear hn hx
    have HL := Lib.hid (limits_at (op := 18) (lo := 1) (hi := 200) (by simp [limT]))
    have HO := Lib.hid (show ∀ w, Calls Tryd.prog 59 #[.int .i64 18] w (fun e w' => e = .returned (.int .i64 0) ∧ w = w') from operands_any 18)
    have HB := Lib.hid (heap_alloc_new w (.cells #[.int .i64 18, .int .i64 0, .int .i64 0, .int .i64 0, .int .i64 n, .slice A2 0 ca2, .int .i64 0, .int .i64 0, .string ⟨#[]⟩, .slice N2 0 cn2, .int .i64 0, .int .i64 0, .int .i64 ex, .bool false] 60))
    have HK := Lib.hid ((Keep.refl (fun _ => False) w).alloc' (.cells #[.int .i64 18, .int .i64 0, .int .i64 0, .int .i64 0, .int .i64 n, .slice A2 0 ca2, .int .i64 0, .int .i64 0, .string ⟨#[]⟩, .slice N2 0 cn2, .int .i64 0, .int .i64 0, .int .i64 ex, .bool false] 60))
    rw [show sb [] = (⟨#[]⟩ : ByteArray) from rfl]
    go_enter Tryd.func66, Tryd.ntmps66
    go_wp2_with fail
    ((with_reducible refine (HL.out _).mono ?_); rintro ee w' ⟨rfl, rfl⟩)
    go_wp2_with fail
    ((with_reducible refine (HO.out _).mono ?_); rintro ee w' ⟨rfl, rfl⟩)
    go_wp2_with fail
    go_ret
    exact ⟨rfl, Since.of HK.out⟩
  | print a pl hv hn =>
    clear hxy
    have c1 : decide (pl < 0) = false := by simp; omega
    clear hv hn
    have HL := Lib.hid (limits_at (op := 19) (lo := 0) (hi := 0) (by simp [limT]))
    have HO := Lib.hid (show ∀ w, Calls Tryd.prog 59 #[.int .i64 19] w (fun e w' => e = .returned (.int .i64 1) ∧ w = w') from operands_any 19)
    have HB := Lib.hid (heap_alloc_new w (.cells #[.int .i64 19, .int .i64 a, .int .i64 0, .int .i64 0, .int .i64 0, .slice A2 0 ca2, .int .i64 0, .int .i64 0, .string ⟨#[]⟩, .slice N2 0 cn2, .int .i64 0, .int .i64 pl, .int .i64 (-1), .bool false] 60))
    have HK := Lib.hid ((Keep.refl (fun _ => False) w).alloc' (.cells #[.int .i64 19, .int .i64 a, .int .i64 0, .int .i64 0, .int .i64 0, .slice A2 0 ca2, .int .i64 0, .int .i64 0, .string ⟨#[]⟩, .slice N2 0 cn2, .int .i64 0, .int .i64 pl, .int .i64 (-1), .bool false] 60))
    rw [show sb [] = (⟨#[]⟩ : ByteArray) from rfl]
    go_enter Tryd.func66, Tryd.ntmps66
    go_wp2_with fail
    ((with_reducible refine (HL.out _).mono ?_); rintro ee w' ⟨rfl, rfl⟩)
    go_wp2_with fail
    ((with_reducible refine (HO.out _).mono ?_); rintro ee w' ⟨rfl, rfl⟩)
    go_wp2_with fail
    go_ret
    exact ⟨rfl, Since.of HK.out⟩
  | loop args ha hv =>
    clear hxy
    clear ha hv
    have HL := Lib.hid (limits_at (op := 20) (lo := 0) (hi := 0) (by simp [limT]))
    have HO := Lib.hid (show ∀ w, Calls Tryd.prog 59 #[.int .i64 20] w (fun e w' => e = .returned (.int .i64 0) ∧ w = w') from operands_any 20)
    have HB := Lib.hid (heap_alloc_new w (.cells #[.int .i64 20, .int .i64 0, .int .i64 0, .int .i64 0, .int .i64 0, .slice A2 args.length ca2, .int .i64 0, .int .i64 0, .string ⟨#[]⟩, .slice N2 0 cn2, .int .i64 0, .int .i64 0, .int .i64 (-1), .bool false] 60))
    have HK := Lib.hid ((Keep.refl (fun _ => False) w).alloc' (.cells #[.int .i64 20, .int .i64 0, .int .i64 0, .int .i64 0, .int .i64 0, .slice A2 args.length ca2, .int .i64 0, .int .i64 0, .string ⟨#[]⟩, .slice N2 0 cn2, .int .i64 0, .int .i64 0, .int .i64 (-1), .bool false] 60))
    rw [show sb [] = (⟨#[]⟩ : ByteArray) from rfl]
    go_enter Tryd.func66, Tryd.ntmps66
    go_wp2_with fail
    ((with_reducible refine (HL.out _).mono ?_); rintro ee w' ⟨rfl, rfl⟩)
    go_wp2_with fail
    ((with_reducible refine (HO.out _).mono ?_); rintro ee w' ⟨rfl, rfl⟩)
    go_wp2_with fail
    go_ret
    exact ⟨rfl, Since.of HK.out⟩
  | fin ex hx =>
    clear hxy
    clear hx
    have HL := Lib.hid (limits_at (op := 21) (lo := 0) (hi := 0) (by simp [limT]))
    have HO := Lib.hid (show ∀ w, Calls Tryd.prog 59 #[.int .i64 21] w (fun e w' => e = .returned (.int .i64 0) ∧ w = w') from operands_any 21)
    have HB := Lib.hid (heap_alloc_new w (.cells #[.int .i64 21, .int .i64 0, .int .i64 0, .int .i64 0, .int .i64 0, .slice A2 0 ca2, .int .i64 0, .int .i64 0, .string ⟨#[]⟩, .slice N2 0 cn2, .int .i64 0, .int .i64 0, .int .i64 ex, .bool false] 60))
    have HK := Lib.hid ((Keep.refl (fun _ => False) w).alloc' (.cells #[.int .i64 21, .int .i64 0, .int .i64 0, .int .i64 0, .int .i64 0, .slice A2 0 ca2, .int .i64 0, .int .i64 0, .string ⟨#[]⟩, .slice N2 0 cn2, .int .i64 0, .int .i64 0, .int .i64 ex, .bool false] 60))
    rw [show sb [] = (⟨#[]⟩ : ByteArray) from rfl]
    go_enter Tryd.func66, Tryd.ntmps66
    go_wp2_with fail
    ((with_reducible refine (HL.out _).mono ?_); rintro ee w' ⟨rfl, rfl⟩)
    go_wp2_with fail
    ((with_reducible refine (HO.out _).mono ?_); rintro ee w' ⟨rfl, rfl⟩)
    go_wp2_with fail
    go_ret
    exact ⟨rfl, Since.of HK.out⟩
end Go.Proofs.YtnbpgipbfejllaaDoor
