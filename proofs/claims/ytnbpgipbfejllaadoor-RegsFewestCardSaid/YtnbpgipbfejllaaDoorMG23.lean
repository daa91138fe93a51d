/- graph: value.Right (the program's); which values may be constants; limits, may. -/
import Derived.Test.YtnbpgipbfejllaaDoorMG17
import Derived.Test.YtnbpgipbfejllaaDoorMG27
import Derived.Test.YtnbpgipbfejllaaDoorMG40
import Derived.Test.YtnbpgipbfejllaaDoorMG21
namespace Go.Proofs.YtnbpgipbfejllaaDoor
open Go.RowKit Go.Lib
set_option linter.unusedVariables false
set_option linter.unusedSimpArgs false

def oddR (x : Nat) : Bool := decide (x < 32) || decide (126 < x)
theorem idx_plain {s : ByteArray} (h : PlainS s) : ∀ (f pos : Nat), Lib.idxFuncFrom oddR true s f pos = -1
  | 0, _ => rfl
  | f + 1, pos => by
    unfold Lib.idxFuncFrom
    split
    · rename_i hp
      obtain ⟨h1, h2⟩ := h.all pos hp
      rw [decode_ascii s pos hp (by omega)]
      have ho : oddR (s[pos]'hp).toNat = false := by simp [oddR]; omega
      simp only [ho]
      rw [if_neg (by decide)]
      exact idx_plain h f _
    · rfl
theorem pred_odd (w : World) : PredAt Tryd.prog 105 #[] encR oddR w := by
  intro W x _
  refine (?_ : Calls Tryd.prog 105 _ W _)
  show Calls Tryd.prog 105 #[.int .i32 (x : Int)] W _
  by_cases h1 : x < 32
  · have hb : decide ((x : Int) < 32) = true := by simp; omega
    have hb' : decide (x < 32) = true := by simpa using h1
    have ho : oddR x = true := by simp [oddR, h1]
    rw [ho]
    go_enter Tryd.func105, Tryd.ntmps105
    go_wp2
    go_ret
    exact ⟨rfl, 0, rfl⟩
  · have hb : decide ((x : Int) < 32) = false := by simp; omega
    have hb' : decide (x < 32) = false := by simpa using h1
    by_cases h2 : 126 < x
    · have hb2 : decide (126 < (x : Int)) = true := by simp; omega
      have hb2' : decide (126 < x) = true := by simpa using h2
      have ho : oddR x = true := by simp [oddR, h2]
      rw [ho]
      go_enter Tryd.func105, Tryd.ntmps105
      go_wp2
      go_ret
      exact ⟨rfl, 0, rfl⟩
    · have hb2 : decide (126 < (x : Int)) = false := by simp; omega
      have hb2' : decide (126 < x) = false := by simpa using h2
      have ho : oddR x = false := by simp [oddR]; omega
      rw [ho]
      go_enter Tryd.func105, Tryd.ntmps105
      go_wp2
      go_ret
      exact ⟨rfl, 0, rfl⟩
theorem contains_plain {s : ByteArray} (h : PlainS s) (w : World) : Calls Tryd.prog 104 #[.string s, .func (.func 105) #[] #[]] w fun e w' => e = .returned (.bool false) ∧ Below w.heap.size w w' := by
  have hi : Lib.idxFunc oddR true s = -1 := idx_plain h _ _
  have := Tryd.strings_ContainsFunc 105 #[] (enters_of Tryd.func105 (by kernel_rfl) rfl) oddR s w (pred_odd w)
  rw [hi] at this
  exact this
set_option maxHeartbeats 4000000 in
theorem val_right (a b : Int) {s : ByteArray} (h : PlainS s) (w : World) : Calls Tryd.prog 100 #[.agg #[.int .i64 a, .int .i64 b, .string s]] w fun e w' => e = .returned (.bool (VR a b s)) ∧ Since w.heap.size w w' := by
  have hk := (Keep.refl (fun _ => False) w).alloc' (.cells #[.int .i64 a, .int .i64 b, .string s] 57)
  have HK := Lib.hid (Since.of (n := w.heap.size) hk)
  by_cases h4 : a = 4
  · subst h4
    have HP := Lib.hid (fun w => contains_plain h w)
    have hs200 := h.size
    obtain ⟨nz, hnz⟩ : ∃ nz, s.size = nz := ⟨_, rfl⟩
    rw [hnz] at hs200
    have hd200 : decide ((nz : Int) ≤ 200) = true := by simp; omega
    have hd200' : decide (nz ≤ 200) = true := by simpa using hs200
    have hv : VR 4 b s = (b == 0) := rfl
    rw [hv]
    clear hk h hv
    go_enter Tryd.func100, Tryd.ntmps100
    go_wp2_with fail
    ((with_reducible refine (HP.out _).mono ?_); rintro e w' ⟨rfl, hb'⟩)
    have HK2 := Lib.hid (Keep.trans HK.out (Since.mono (since_below' hb') HK.out.size))
    have hb1 := (hb'.block w.heap.size (by simp)).trans (heap_alloc_new w (.cells #[.int .i64 4, .int .i64 b, .string s] 57))
    have c0 := blk_cell hb1 0
    have c1 := blk_cell hb1 1
    have c2 := blk_cell hb1 2
    simp only [List.getElem?_toArray, List.getElem?_cons_zero, List.getElem?_cons_succ] at c0 c1 c2
    clear hb' hb1
    cases hb0 : (b == 0) with
    | true =>
      go_wp2_with fail
      go_ret
      exact ⟨by rw [hb0]; rfl, HK2.out⟩
    | false =>
      go_wp2_with fail
      go_ret
      exact ⟨by rw [hb0]; rfl, HK2.out⟩
  · have h4' : (a == 4) = false := by simpa using h4
    by_cases hs : s.size = 0
    · obtain rfl := empty_bytes hs
      clear hk
      by_cases h0 : a = 0
      · subst h0
        have hvr : VR 0 b ⟨#[]⟩ = (decide (0 ≤ b) && decide (b ≤ 0)) := vr_0 b
        by_cases hl : 0 ≤ b
        · have hd : decide (0 ≤ b) = true := by simpa using hl
          have hv : VR 0 b ⟨#[]⟩ = decide (b ≤ 0) := by rw [hvr, hd]; rfl
          rw [hv]
          clear hv hvr
          go_enter Tryd.func100, Tryd.ntmps100
          go_wp2_with fail
          go_ret
          exact ⟨rfl, HK.out⟩
        · have hd : decide (0 ≤ b) = false := by simpa using hl
          have hv : VR 0 b ⟨#[]⟩ = false := by rw [hvr, hd]; rfl
          rw [hv]
          clear hv hvr
          go_enter Tryd.func100, Tryd.ntmps100
          go_wp2_with fail
          go_ret
          exact ⟨rfl, HK.out⟩
      by_cases h1 : a = 1
      · subst h1
        have hvr : VR 1 b ⟨#[]⟩ = (decide (0 ≤ b) && decide (b ≤ 0)) := vr_1 b
        by_cases hl : 0 ≤ b
        · have hd : decide (0 ≤ b) = true := by simpa using hl
          have hv : VR 1 b ⟨#[]⟩ = decide (b ≤ 0) := by rw [hvr, hd]; rfl
          rw [hv]
          clear hv hvr
          go_enter Tryd.func100, Tryd.ntmps100
          go_wp2_with fail
          go_ret
          exact ⟨rfl, HK.out⟩
        · have hd : decide (0 ≤ b) = false := by simpa using hl
          have hv : VR 1 b ⟨#[]⟩ = false := by rw [hvr, hd]; rfl
          rw [hv]
          clear hv hvr
          go_enter Tryd.func100, Tryd.ntmps100
          go_wp2_with fail
          go_ret
          exact ⟨rfl, HK.out⟩
      by_cases h2 : a = 2
      · subst h2
        have hvr : VR 2 b ⟨#[]⟩ = (decide (0 ≤ b) && decide (b ≤ 1)) := vr_2 b
        by_cases hl : 0 ≤ b
        · have hd : decide (0 ≤ b) = true := by simpa using hl
          have hv : VR 2 b ⟨#[]⟩ = decide (b ≤ 1) := by rw [hvr, hd]; rfl
          rw [hv]
          clear hv hvr
          go_enter Tryd.func100, Tryd.ntmps100
          go_wp2_with fail
          go_ret
          exact ⟨rfl, HK.out⟩
        · have hd : decide (0 ≤ b) = false := by simpa using hl
          have hv : VR 2 b ⟨#[]⟩ = false := by rw [hvr, hd]; rfl
          rw [hv]
          clear hv hvr
          go_enter Tryd.func100, Tryd.ntmps100
          go_wp2_with fail
          go_ret
          exact ⟨rfl, HK.out⟩
      by_cases h3 : a = 3
      · subst h3
        have hvr : VR 3 b ⟨#[]⟩ = (decide (-1000000000000000 ≤ b) && decide (b ≤ 1000000000000000)) := vr_3 b
        by_cases hl : -1000000000000000 ≤ b
        · have hd : decide (-1000000000000000 ≤ b) = true := by simpa using hl
          have hv : VR 3 b ⟨#[]⟩ = decide (b ≤ 1000000000000000) := by rw [hvr, hd]; rfl
          rw [hv]
          clear hv hvr
          go_enter Tryd.func100, Tryd.ntmps100
          go_wp2_with fail
          go_ret
          exact ⟨rfl, HK.out⟩
        · have hd : decide (-1000000000000000 ≤ b) = false := by simpa using hl
          have hv : VR 3 b ⟨#[]⟩ = false := by rw [hvr, hd]; rfl
          rw [hv]
          clear hv hvr
          go_enter Tryd.func100, Tryd.ntmps100
          go_wp2_with fail
          go_ret
          exact ⟨rfl, HK.out⟩
      by_cases h5 : a = 5
      · subst h5
        have hvr : VR 5 b ⟨#[]⟩ = (decide (0 ≤ b) && decide (b ≤ 1000000000)) := vr_5 b
        by_cases hl : 0 ≤ b
        · have hd : decide (0 ≤ b) = true := by simpa using hl
          have hv : VR 5 b ⟨#[]⟩ = decide (b ≤ 1000000000) := by rw [hvr, hd]; rfl
          rw [hv]
          clear hv hvr
          go_enter Tryd.func100, Tryd.ntmps100
          go_wp2_with fail
          go_ret
          exact ⟨rfl, HK.out⟩
        · have hd : decide (0 ≤ b) = false := by simpa using hl
          have hv : VR 5 b ⟨#[]⟩ = false := by rw [hvr, hd]; rfl
          rw [hv]
          clear hv hvr
          go_enter Tryd.func100, Tryd.ntmps100
          go_wp2_with fail
          go_ret
          exact ⟨rfl, HK.out⟩
      by_cases h6 : a = 6
      · subst h6
        have hvr : VR 6 b ⟨#[]⟩ = (decide (0 ≤ b) && decide (b ≤ 23)) := vr_6 b
        by_cases hl : 0 ≤ b
        · have hd : decide (0 ≤ b) = true := by simpa using hl
          have hv : VR 6 b ⟨#[]⟩ = decide (b ≤ 23) := by rw [hvr, hd]; rfl
          rw [hv]
          clear hv hvr
          go_enter Tryd.func100, Tryd.ntmps100
          go_wp2_with fail
          go_ret
          exact ⟨rfl, HK.out⟩
        · have hd : decide (0 ≤ b) = false := by simpa using hl
          have hv : VR 6 b ⟨#[]⟩ = false := by rw [hvr, hd]; rfl
          rw [hv]
          clear hv hvr
          go_enter Tryd.func100, Tryd.ntmps100
          go_wp2_with fail
          go_ret
          exact ⟨rfl, HK.out⟩
      have h0' : (a == 0) = false := by simpa using h0
      have h1' : (a == 1) = false := by simpa using h1
      have h2' : (a == 2) = false := by simpa using h2
      have h3' : (a == 3) = false := by simpa using h3
      have h5' : (a == 5) = false := by simpa using h5
      have h6' : (a == 6) = false := by simpa using h6
      rw [vr_other rfl h4 h0 h1 h2 h3 h5 h6]
      go_enter Tryd.func100, Tryd.ntmps100
      go_wp2_with fail
      go_ret
      exact ⟨rfl, HK.out⟩
    · have he : s.toList.isEmpty = false := not_empty hs
      have hv : VR a b s = false := by unfold VR; rw [if_neg h4, if_pos hs]
      rw [hv]
      clear hk hv
      go_enter Tryd.func100, Tryd.ntmps100
      go_wp2_with fail
      all_goals go_ret
      all_goals exact ⟨rfl, HK.out⟩
theorem gconst_any {kk kn : Int} {ks : Bytes} (h : ConstK kk kn ks) (w : World) : Calls Tryd.prog 89 #[.agg #[.int .i64 kk, .int .i64 kn, .string (sb ks)]] w fun e w' => e = .returned (.bool true) ∧ Since w.heap.size w w' := by
  have HK := Lib.hid (Since.of (n := w.heap.size) ((Keep.refl (fun _ => False) w).alloc' (.cells #[.int .i64 kk, .int .i64 kn, .string (sb ks)] 57)))
  have HV := Lib.hid (val_right kk kn h.plain (w.alloc (.cells #[.int .i64 kk, .int .i64 kn, .string (sb ks)] 57)))
  rw [h.right] at HV
  have HB := Lib.hid (heap_alloc_new w (.cells #[.int .i64 kk, .int .i64 kn, .string (sb ks)] 57))
  have h4 : kk = 3 ∨ kk = 1 ∨ kk = 2 ∨ kk = 4 := by rcases h with ⟨rfl, _⟩ | ⟨rfl, _⟩ | ⟨rfl, _⟩ | ⟨rfl, _⟩ <;> simp
  clear h
  rcases h4 with rfl | rfl | rfl | rfl
  all_goals
    go_enter Tryd.func89, Tryd.ntmps89
    go_wp2_with fail
    ((with_reducible refine HV.out.mono ?_); rintro ee w' ⟨rfl, hk⟩)
    have q := (blk_cell ((hk.block _ (by simp) (by simp)).trans HB.out) 0).trans rfl
    have HK2 := Lib.hid (Keep.trans HK.out (Since.mono hk HK.out.size))
    clear hk
    go_wp2_with fail
    go_ret
    exact ⟨rfl, HK2.out⟩
def limT : List (Int × Int × Int) := [(1, 0, 0), (2, 0, 0), (3, 3, 4), (4, 5, 14), (5, 0, 1), (6, 1, 6), (7, 0, 9223372036854775807), (8, 0, 0), (9, 0, 0), (10, 0, 63), (11, 0, 63), (12, 0, 0), (13, 0, 0), (14, 0, 0), (15, 0, 600), (16, 0, 9223372036854775807), (18, 1, 200), (19, 0, 0), (20, 0, 0), (21, 0, 0)]
set_option maxRecDepth 100000 in
theorem limits_at {op lo hi : Int} (h : (op, lo, hi) ∈ limT) (w : World) : Calls Tryd.prog 88 #[.int .i64 op] w fun e w' => e = .returned (.tuple #[.int .i64 lo, .int .i64 hi]) ∧ w = w' := by
  simp only [limT, List.mem_cons, List.not_mem_nil, or_false, Prod.mk.injEq] at h
  rcases h with ⟨rfl, rfl, rfl⟩ | ⟨rfl, rfl, rfl⟩ | ⟨rfl, rfl, rfl⟩ | ⟨rfl, rfl, rfl⟩ | ⟨rfl, rfl, rfl⟩ | ⟨rfl, rfl, rfl⟩ | ⟨rfl, rfl, rfl⟩ | ⟨rfl, rfl, rfl⟩ | ⟨rfl, rfl, rfl⟩ | ⟨rfl, rfl, rfl⟩ | ⟨rfl, rfl, rfl⟩ | ⟨rfl, rfl, rfl⟩ | ⟨rfl, rfl, rfl⟩ | ⟨rfl, rfl, rfl⟩ | ⟨rfl, rfl, rfl⟩ | ⟨rfl, rfl, rfl⟩ | ⟨rfl, rfl, rfl⟩ | ⟨rfl, rfl, rfl⟩ | ⟨rfl, rfl, rfl⟩ | ⟨rfl, rfl, rfl⟩
  all_goals
    go_enter Tryd.func88, Tryd.ntmps88
    go_wp2_with fail
    exact bodyPost_ret (results_tmp2 rfl _ _ _) rfl ⟨rfl, rfl⟩
def mayOp (op : Int) : Bool := memB [5, 6, 7, 8, 9, 15, 18, 21] op || (op == 3 || op == 4)
theorem may_any (op : Int) (w : World) : Calls Tryd.prog 68 #[.int .i64 op] w fun e w' => e = .returned (.bool (mayOp op)) ∧ Keep (fun _ => False) w w' := by
  have HM := Lib.hid (gmust_any op w)
  unfold mayOp
  generalize memB [5, 6, 7, 8, 9, 15, 18, 21] op = mm at HM ⊢
  cases mm with
  | true =>
    go_enter Tryd.func68, Tryd.ntmps68
    go_wp2_with fail
    ((with_reducible refine HM.out.mono ?_); rintro ee w' ⟨rfl, hk⟩)
    have HK := Lib.hid hk
    clear hk
    go_wp2_with fail
    go_ret
    exact ⟨rfl, HK.out⟩
  | false =>
    by_cases h3 : op = 3
    · subst h3
      go_enter Tryd.func68, Tryd.ntmps68
      go_wp2_with fail
      ((with_reducible refine HM.out.mono ?_); rintro ee w' ⟨rfl, hk⟩)
      have HK := Lib.hid hk
      clear hk
      go_wp2_with fail
      go_ret
      exact ⟨rfl, HK.out⟩
    · have b3 : (op == 3) = false := by simpa using h3
      go_enter Tryd.func68, Tryd.ntmps68
      go_wp2_with fail
      ((with_reducible refine HM.out.mono ?_); rintro ee w' ⟨rfl, hk⟩)
      have HK := Lib.hid hk
      clear hk
      go_wp2_with fail
      go_ret
      exact ⟨by rw [b3]; rfl, HK.out⟩
end Go.Proofs.YtnbpgipbfejllaaDoor
/- graph: names of an object (the program's); right fields. -/
namespace Go.Proofs.YtnbpgipbfejllaaDoor
open Go.RowKit Go.Lib
set_option linter.unusedVariables false
set_option linter.unusedSimpArgs false

theorem distinct_none {w : World} (A : Option Addr) (c : Nat) : Calls Tryd.prog 90 #[.slice A 0 c] w fun e w' => e = .returned (.bool true) ∧ w = w' := by
  go_enter Tryd.func90, Tryd.ntmps90
  go_wp2_with fail
  go_loopw [3, 4, 7] (fun x y i wr => i = .int .i64 0 ∧ Hid (w = wr)) (fun _ _ i _ => 1)
  case atStart => exact ⟨rfl, Lib.hid rfl⟩
  case round =>
    obtain ⟨rfl, HW⟩ := hrel
    obtain ⟨wo, rfl⟩ : ∃ wo : World, wo = wr := ⟨_, rfl⟩
    obtain rfl := HW.out
    go_wp2_with fail
    go_ret
    exact ⟨rfl, rfl⟩
set_option maxRecDepth 100000 in
set_option maxHeartbeats 2000000 in
theorem sindexs_xy {w : World} {g o : Nat} (c : Nat) (h0 : w.cell? ⟨g, o, none⟩ = some (.string (sb [120]))) (h1 : w.cell? ⟨g, o + 1, none⟩ = some (.string (sb [121]))) (k : Nat) (hk : k < 2) : Calls Tryd.prog 101 #[.slice (some ⟨g, o, none⟩) 2 c, .string (if k = 0 then sb [120] else sb [121])] w fun e w' => e = .returned (.int .i64 (k : Int)) ∧ w = w' := by
  have hne : ((sb [121]).toList == (sb [120]).toList) = false := by rw [beq_eq_false_iff_ne]; exact fun h => absurd (toList_inj h) (by decide)
  rcases (show k = 0 ∨ k = 1 by omega) with rfl | rfl
  · rw [if_pos rfl]
    clear hne
    go_enter Tryd.func101, Tryd.ntmps101
    go_wp2_with fail
    go_loopw [5, 8] (fun x i wr => i = .int .i64 0 ∧ Hid (w = wr)) (fun _ i _ => 1)
    case atStart => exact ⟨rfl, Lib.hid rfl⟩
    case round =>
      obtain ⟨rfl, HW⟩ := hrel
      obtain ⟨wo, rfl⟩ : ∃ wo : World, wo = wr := ⟨_, rfl⟩
      obtain rfl := HW.out
      go_wp2_with fail
      go_ret
      exact ⟨rfl, rfl⟩
  · rw [if_neg (by decide)]
    go_enter Tryd.func101, Tryd.ntmps101
    go_wp2_with fail
    go_loopw [5, 8] (fun x i wr => ∃ k : Nat, k ≤ 1 ∧ i = .int .i64 (k : Int) ∧ Hid (w = wr)) (fun _ i _ => 3 - (RowKit.intOf i).toNat)
    case atStart => exact ⟨0, by omega, rfl, Lib.hid rfl⟩
    case round =>
      obtain ⟨k, hk2, rfl, HW⟩ := hrel
      obtain ⟨wo, rfl⟩ : ∃ wo : World, wo = wr := ⟨_, rfl⟩
      obtain rfl := HW.out
      rcases (show k = 0 ∨ k = 1 by omega) with rfl | rfl
      · go_wp2_with fail
        exact ⟨⟨1, by omega, by go_num, Lib.hid trivial⟩, by simp [RowKit.intOf]⟩
      · go_wp2_with fail
        go_ret
        exact ⟨rfl, rfl⟩
set_option maxRecDepth 100000 in
set_option maxHeartbeats 2000000 in
theorem distinct_xy {w : World} {g o : Nat} (c : Nat) (h0 : w.cell? ⟨g, o, none⟩ = some (.string (sb [120]))) (h1 : w.cell? ⟨g, o + 1, none⟩ = some (.string (sb [121]))) : Calls Tryd.prog 90 #[.slice (some ⟨g, o, none⟩) 2 c] w fun e w' => e = .returned (.bool true) ∧ w = w' := by
  have n0 : (sb [120]).toList.isEmpty = false := by rw [Lib.toList_data]; rfl
  have n1 : (sb [121]).toList.isEmpty = false := by rw [Lib.toList_data]; rfl
  have HI0 := Lib.hid (show Calls Tryd.prog 101 #[.slice (some ⟨g, o, none⟩) 2 c, .string (sb [120])] w _ from sindexs_xy c h0 h1 0 (by omega))
  have HI1 := Lib.hid (show Calls Tryd.prog 101 #[.slice (some ⟨g, o, none⟩) 2 c, .string (sb [121])] w _ from sindexs_xy c h0 h1 1 (by omega))
  go_enter Tryd.func90, Tryd.ntmps90
  go_wp2_with fail
  go_loopw [3, 4, 7] (fun x y i wr => ∃ k : Nat, k ≤ 2 ∧ i = .int .i64 (k : Int) ∧ Hid (w = wr)) (fun _ _ i _ => 3 - (RowKit.intOf i).toNat)
  case atStart => exact ⟨0, by omega, rfl, Lib.hid rfl⟩
  case round =>
    obtain ⟨k, hk2, rfl, HW⟩ := hrel
    obtain ⟨wo, rfl⟩ : ∃ wo : World, wo = wr := ⟨_, rfl⟩
    obtain rfl := HW.out
    rcases (show k = 0 ∨ k = 1 ∨ k = 2 by omega) with rfl | rfl | rfl
    · go_wp2_with fail
      ((with_reducible refine HI0.out.mono ?_); rintro ee w' ⟨rfl, rfl⟩)
      go_wp2_with fail
      exact ⟨⟨1, by omega, by go_num, Lib.hid trivial⟩, by simp [RowKit.intOf]⟩
    · go_wp2_with fail
      ((with_reducible refine HI1.out.mono ?_); rintro ee w' ⟨rfl, rfl⟩)
      go_wp2_with fail
      exact ⟨⟨2, by omega, by go_num, Lib.hid trivial⟩, by simp [RowKit.intOf]⟩
    · go_wp2_with fail
      go_ret
      exact ⟨rfl, rfl⟩
end Go.Proofs.YtnbpgipbfejllaaDoor
