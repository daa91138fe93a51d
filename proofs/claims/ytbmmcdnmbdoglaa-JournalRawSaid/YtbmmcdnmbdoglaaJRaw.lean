/- JournalRaw: arbitrary contents are refused, or make a journal to which a record can be appended that survives. -/
import Derived.Test.YtbmmcdnmbdoglaaJA
import Derived.Test.YtbmmcdnmbdoglaaKM
import Derived.Test.YtbmmcdnmbdoglaaKS
import Derived.Test.YtbmmcdnmbdoglaaKL
namespace Go.Proofs.Ytbmmcdnmbdoglaa
open Go.ChangeShapes Go.WideShapes Go.ChangeAt Go.RowKit
set_option linter.unusedVariables false

theorem bytes_sum4 : ∀ l : List Bytes, bytesOf l = sum4 l + 12 * l.length ∧ 4 * l.length ≤ sum4 l
  | [] => by simp [sum4, bytesOf]
  | r :: l => by
    have := bytes_sum4 l
    simp only [sum4, bytesOf, List.length_cons]
    omega
theorem raw_small {c : Bytes} {E : Nat} {l : List Bytes} (h : openL c = some (E, l)) (hc : c.length ≤ 400) : bytesOf l ≤ 2000 ∧ l.length ≤ 100 := by
  have h1 := (open_sum h).1
  obtain ⟨n, rfl, _, _, h2, _⟩ := open_some h
  have h3 := bytes_sum4 l
  omega
theorem strs_one (l : List Bytes) : ∀ u ∈ strs l, u.oneCell' = true := by
  intro u hu
  obtain ⟨_, _, rfl⟩ := List.mem_map.1 hu
  rfl
theorem strs_append (l m : List Bytes) : strs (l ++ m) = strs l ++ strs m := by simp [strs]

set_option maxHeartbeats 1000000 in
set_option maxRecDepth 100000 in
theorem raw_walk (s : ByteArray) (off : Int) (rc : ByteArray) (hs : s.size ≤ 140737488351232) (hoff : 0 ≤ off ∧ off ≤ 255) (hr : rc.size ≤ 140737488351232) (w : World) :
    Calls Try.prog 6 #[.string s, .int .u8 off, .string rc] w fun e w' => e = .returned (.bool true) ∧ Below w.heap.size w w' := by
  obtain ⟨k, hk⟩ : ∃ k : Nat, min s.size 300 = k := ⟨_, rfl⟩
  have hmin : ∀ w, (Builtin.min_ #[3, 3] 3 #[.int .i64 (s.size : Int), .int .i64 300]).run Try.prog w = .ok (.int .i64 (k : Int)) w := by
    intro w
    rw [run_min_int2]
    congr 2
    split <;> omega
  have hk1 : k ≤ s.size := by omega
  have hk2 : k ≤ 300 := by omega
  have hx1 : (s.extract 0 k).size = k := by rw [ByteArray.size_extract]; omega
  obtain ⟨x, hx⟩ : ∃ x, s.extract 0 k = x := ⟨_, rfl⟩
  have hxs : x.size ≤ 300 := by rw [← hx]; omega
  obtain ⟨o, ho⟩ : ∃ o : Nat, off % 100 = o := ⟨(off % 100).toNat, by omega⟩
  have ho2 : o < 100 := by omega
  obtain ⟨d1, hd1⟩ : ∃ d1, DS.new.write o (bs x) = d1 := ⟨_, rfl⟩
  have e1 : DS.new.doWrite (o : Int) (bs x) = (0, d1) := by rw [← hd1]; exact doWrite_on (by rw [bs_length]; omega) rfl
  obtain ⟨d2, hd2⟩ : ∃ d2, d1.sync = d2 := ⟨_, rfl⟩
  have e2 : d1.doSync = (0, d2) := by rw [← hd2]; exact doSync_on (by rw [← hd1]; rfl)
  have f1 : d1.few 100000000 := by
    rw [← hd1]
    refine ⟨by show (0 : Int) + 1 ≤ _; omega, ?_⟩
    show ([] ++ pieces o (bs x)).length ≤ _
    rw [List.nil_append]
    have := pieces_length (bs x).length o (bs x) (Nat.le_refl _)
    rw [bs_length] at this
    omega
  have f2 : d2.off = false ∧ d2.few 100000000 ∧ d2.now.length ≤ 400 ∧ d2.sync.failing = false ∧ d2.sync.calls = 3 := by
    rw [← hd2, ← hd1]
    refine ⟨rfl, ⟨by show (0 : Int) + 1 + 1 ≤ _; omega, Nat.zero_le _⟩, ?_, rfl, rfl⟩
    show (putL [] o (bs x)).length ≤ 400
    rw [putL_length, bs_length]
    simp; omega
  have E1 := Lib.hid e1; have E2 := Lib.hid e2; have F1 := Lib.hid f1; have F2 := Lib.hid f2; have HO := Lib.hid ho; have HMIN := Lib.hid hmin; have HX := Lib.hid hx; have HXS := Lib.hid hxs
  clear e1 e2 f1 f2 hd1 hd2 ho hmin hx1 hk hx hxs
  go_enter Try.func6, Try.ntmps6
  go_wp2_with fail
  refine (sanity_any w).mono ?_
  rintro e w1 ⟨rfl, hs1⟩
  have S1 := Lib.hid hs1; clear hs1
  go_wp2_with fail
  refine (new_D w1).mono ?_
  rintro e w2 ⟨rfl, hd2, hs2⟩
  have D2 := Lib.hid hd2; have S2 := Lib.hid (Keep.trans S1.out (Since.mono hs2 S1.out.size)); clear hd2 hs2
  have hmin := HMIN.out
  go_wp2_with fail
  clear hmin
  rw [HX.out, HO.out]
  refine (write_D D2.out (o : Int) x (by omega) (by have := HXS.out; omega) ⟨by decide, by decide⟩ E1.out).mono ?_
  rintro e w3 ⟨rfl, hd3, hs3⟩
  have D3 := Lib.hid hd3; have S3 := Lib.hid (Keep.trans S2.out (Since.mono hs3 S1.out.size)); clear hd3 hs3 D2 S2
  go_wp2_with fail
  refine (sync_D D3.out F1.out E2.out).mono ?_
  rintro e w4 ⟨rfl, hd4, hs4⟩
  have D4 := Lib.hid (dx_of hd4 (fun _ => False) (fun _ => False.elim)); have S4 := Lib.hid (Keep.trans S3.out (Since.mono hs4 S1.out.size)); clear hd4 hs4 D3 S3
  go_wp2_with fail
  cases hop : openL d2.now with
  | none =>
    have h5 := open_wrong_X D4.out F2.out.1 F2.out.2.1 hop
    clear hop
    ((with_reducible refine h5.mono ?_); rintro e w5 ⟨rfl, _, hk5⟩)
    have S5 := Lib.hid (Keep.trans S4.out (Since.mono hk5.since S1.out.size)); clear hk5 h5
    go_wp2_with fail
    go_ret
    exact ⟨rfl, below_since S5.out rfl⟩
  | some El =>
    obtain ⟨E, l⟩ := El
    have hsm := raw_small hop F2.out.2.2.1
    have G0 := Lib.hid (good_open hop)
    have h5 := open_X D4.out F2.out.1 F2.out.2.1 hop
    have HSM := Lib.hid hsm
    clear hop hsm
    ((with_reducible refine h5.mono ?_); rintro e w5 ⟨jp, A, c, rfl, hj5, hk5, hA5, _, hno⟩)
    have J5 := Lib.hid hj5; have A5 := Lib.hid hA5; have NO := Lib.hid hno; have S5 := Lib.hid (Keep.trans S4.out (Since.mono hk5.since S1.out.size))
    clear hj5 hk5 hA5 hno h5 D4 S4
    go_wp2_with fail
    have h6 := many_X J5.out
    ((with_reducible refine h6.mono ?_); rintro e wx ⟨rfl, rfl⟩)
    clear h6
    go_wp2_with fail
    have hrs := sh_size rc
    have h7 := short_any w5 rc (by omega)
    ((with_reducible refine h7.mono ?_); rintro e wx ⟨rfl, rfl⟩)
    clear h7
    obtain ⟨y, hy⟩ : ∃ y, sh rc = y := ⟨_, rfl⟩
    have HY := Lib.hid hy
    rw [hy] at hrs ⊢
    clear hy
    go_wp2_with fail
    have h8 := append_G J5.out G0.out F2.out.2.2.2.1 y (B := 2000) HSM.out.1 (by omega) (C := 3) (by rw [F2.out.2.2.2.2]; decide) (by decide)
    ((with_reducible refine h8.mono ?_); rintro e w6 ⟨rfl, d6, j6, hj6, hg6, hp6, hc6, hk6⟩)
    have J6 := Lib.hid hj6; have G6 := Lib.hid hg6; have A6 := Lib.hid (hk6.strs A5.out (fun a ha => .inr (.inr ⟨a, ha, rfl⟩))); have S6 := Lib.hid (Keep.trans S5.out (Since.mono hk6.since S1.out.size))
    clear hj6 hg6 hp6 hc6 hk6 h8 J5 A5 S5 G0
    go_wp2_with fail
    have h9 := crash_X J6.out.dx none 0 0 [] (CellsAt.nil _ _) (by simp) (by rw [G6.out.prt]; simp)
    have gc := good_crash G6.out []
    obtain ⟨d7, hd7⟩ : ∃ d7, d6.crash [] = d7 := ⟨_, rfl⟩
    have cf : d7.calls = 0 ∧ d7.off = false ∧ d7.parts = [] := by rw [← hd7]; exact ⟨rfl, rfl, rfl⟩
    rw [hd7] at h9 gc
    ((with_reducible refine h9.mono ?_); rintro e w7 ⟨rfl, _, hd7', hs7⟩)
    have D7 := Lib.hid hd7'; have C7 := Lib.hid (And.intro cf gc); have S7 := Lib.hid hs7
    clear hd7 hd7' hs7 cf gc h9 J6 G6
    go_wp2_with fail
    have h10 := open_C D7.out C7.out.1.1 C7.out.1.2.1 C7.out.1.2.2 C7.out.2.opn
    ((with_reducible refine h10.mono ?_); rintro e w8 ⟨jp8, A8, c8, rfl, _, hs8, hA8, _, _⟩)
    have B8 := Lib.hid hA8; have A8s := Lib.hid (strs_since A6.out (Keep.trans S7.out hs8)); have S8 := Lib.hid (Keep.trans S6.out (Since.mono (Keep.trans S7.out hs8) S6.out.size))
    clear hA8 hs8 h10 D7 C7 S7 A6 S6
    have hw8 : w.heap.size ≤ w8.heap.size := S8.out.size
    have hll : l.length ≤ 100 := HSM.out.2
    go_wp2_with (at_builtin; refine wpList_append_want (by rfl) 22 9 (.string ⟨#[]⟩) 16 w8.heap.size Try.strs (.tmp 81) (.tmp 82) rfl (.slice (some ⟨w8.heap.size, 0, none⟩) 0 0) 0 [] rfl (by exact own_new w8 9 #[] 0 w8.heap.size rfl (by decide) (Nat.le_refl _)) A l.length c (strs l) rfl NO.out (A8s.out.alloc _) (strs_one l) (by omega) (by decide) (by simp) ?_)
    intro A9 c9 w9 ho9 hg9 _
    have K9 := Lib.hid (show Since w8.heap.size w8 w9 from (Since.of ((Keep.refl (fun _ => False) w8).alloc' _)).grown hg9 (fun k e => .inl (by have e' : some w8.heap.size = some k := e; have := Option.some.inj e'; omega)))
    try simp only [Nat.zero_add, List.nil_append] at ho9
    have O9 := Lib.hid ho9
    clear ho9 hg9
    try simp only [Nat.zero_add]
    go_wp2_with fail
    have h11 := short_any w9 rc (by omega)
    rw [HY.out] at h11
    ((with_reducible refine h11.mono ?_); rintro e wx ⟨rfl, rfl⟩)
    clear h11
    have hk9 := K9.out.size
    go_wp2_with (at_builtin; refine wpList_append_want (by rfl) 22 9 (.string ⟨#[]⟩) 16 w8.heap.size Try.strs (.tmp 83) (.tmp 86) rfl (.slice A9 l.length c9) l.length (strs l) rfl (O9.out.alloc _) (some ⟨w9.heap.size, 0, none⟩) 1 1 [.string y] rfl (by intro h; cases h) (cells_new w9 [.string y] 9) (fun u hu => by cases List.mem_singleton.1 hu; rfl) (by omega) (by decide) (by simp; omega) ?_)
    intro A10 c10 w10 ho10 hg10 _
    have K10 := Lib.hid (show Since w8.heap.size w8 w10 from (Keep.trans K9.out (Since.of ((Keep.refl (fun _ => False) w9).alloc' _))).grown hg10 (fun k e => .inl (own_low O9.out e)))
    have hrow : strs l ++ [.string y] = strs (l ++ [bs y]) := by simp [strs, sb_bs]
    rw [hrow] at ho10
    obtain ⟨Aq, cq, eq, hq⟩ := owns_cells ho10
    injection eq with e1 e2 e3
    subst e1 e3
    have Q10 := Lib.hid hq
    clear ho10 hg10 hrow hq e2 O9
    have hll2 : (l ++ [bs y]).length = l.length + 1 := by simp
    have h12 := same_any (show StrsAt w10 A8 (l.length + 1) (l ++ [bs y]) from hll2 ▸ strs_since B8.out K10.out) (show StrsAt w10 A10 (l.length + 1) (l ++ [bs y]) from Q10.out) true (by simp) (ca := c8) (cb := c10)
    have H12 := Lib.hid h12
    clear h12 hll2
    go_wp2_with fail
    ((with_reducible refine H12.out.mono ?_); rintro e w11 ⟨rfl, i, hi⟩)
    have S11 := Lib.hid (show Since w.heap.size w w11 by rw [hi]; exact Keep.trans (Keep.trans S8.out (Since.mono K10.out S8.out.size)) (since_draw _ _ _))
    clear hi H12
    go_wp2_with fail
    go_ret
    exact ⟨rfl, below_since S11.out rfl⟩
set_option maxRecDepth 100000 in
theorem raw_lifted (os : Os) (started : os.Started) (H : Type) (enc : TypeId × Value → H) :
    ReturnsInHanded {} Try.checked os 6 .any (Rows.journalRawSpec.pre6 enc Try.prog Try.f6 Rows.journalRawRow.domain false) (Rows.journalRawSpec.post enc Try.prog Try.f6 false true false false) := by
  refine law_lift (C := Try.checked) Try.own started (by kernel_rfl) Try.func6
    (ChangeSpec.witness6 (enc := enc) (C := Try.checked) false ⟨#[], #[.string ⟨#[]⟩, .int .u8 0, .string ⟨#[]⟩], []⟩ 8 (by kernel_rfl) (by kernel_rfl) (by kernel_rfl) (by kernel_rfl))
    Try.laidOut (by kernel_rfl) rfl rfl Try.underlying4 ?_ ?_
  · intro ds hl
    match ds, hl with
    | [d1, d2, d3], _ => exact ⟨rfl, rfl, rfl⟩
  · intro W base args ds p hval0 hA0 hlt hsz0
    have hval : ∀ (j : Nat) t v, Try.f6.params[j]? = some t → args[j]? = some v → Value.okWide Try.prog W .any base t v := hval0
    have hA : DataW.TrodAll enc Try.prog W 0 (fun _ => true) true Try.f6.params.toList args.toList ds p := hA0
    have hsz : (DataW.weightsEach Try.prog Try.f6.params.toList ds).all (· ≤ reachBytes) = true := hsz0
    rw [Try.params6] at hA hval hsz
    clear hA0 hval0 hsz0
    obtain ⟨v0, v1, v2, d0, d1, d2, p0, p1, p2, rfl, rfl, rfl, h0, h1, h2⟩ := trodAll_three hA
    have hlt0 : ∀ x ∈ p0, x.block < W.heap.size := fun x hx => hlt x (by simp [hx])
    have hlt1 : ∀ x ∈ p1, x.block < W.heap.size := fun x hx => hlt x (by simp [hx])
    have hlt2 : ∀ x ∈ p2, x.block < W.heap.size := fun x hx => hlt x (by simp [hx])
    obtain ⟨s, rfl, zs⟩ := open_str Try.underlying9 (hval 0 9 v0 rfl rfl) h0 (fun b hd => sized_string hsz (j := 0) rfl (by simp [hd]))
    obtain ⟨o, rfl, rfl, rfl, wo⟩ := open_int Try.underlying5 (hval 1 5 v1 rfl rfl) h1
    obtain ⟨r, rfl, zr⟩ := open_str Try.underlying9 (hval 2 9 v2 rfl rfl) h2 (fun b hd => sized_string hsz (j := 2) rfl (by simp [hd]))
    exact raw_walk s o r zs (bd_u8 wo) zr W

/-- The statement. -/
theorem raw_holds : Rows.JournalRawSaid :=
  OpenClaim.holds_of_wide 6 Try.f6 rfl rfl rfl rfl rfl rfl rfl ⟨rfl, rfl, rfl, rfl, rfl⟩ rfl rfl rfl rfl rfl (by kernel_rfl) Try.func6 (by kernel_rfl)
    (of_decide_eq_true (by kernel_rfl)) (by unfold Func.isWrapper; first | (rw [if_pos (by decide +kernel)]; kernel_rfl) | (rw [if_neg (by decide +kernel)]; exact ⟨rfl, rfl⟩))
    (fun os started H enc _ => raw_lifted os started H enc)
#print axioms raw_holds
end Go.Proofs.Ytbmmcdnmbdoglaa
