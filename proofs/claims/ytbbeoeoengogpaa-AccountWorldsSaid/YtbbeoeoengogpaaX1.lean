/- facsimileref06.World: a right world out of numbers. -/
import Derived.Test.YtbbeoeoengogpaaX0
import Derived.Test.YtbbeoeoengogpaaWF
import Derived.Test.YtbbeoeoengogpaaRU
import Derived.Deep.AppendLies
import Derived.Deep.RegionLaw
import Derived.Deep.Cut
namespace Go.Proofs.Ytbbeoeoengogpaa
open Go.RowKit Go.Lib
set_option linter.unusedVariables false
set_option linter.unusedSimpArgs false

theorem WN.c {w W : World} {p C B : Nat} {cs : List Value} {A0 : Option Addr} {n0 c0 : Nat} {l0 : List Val} {rs : List IR} (h : WN w p C B cs A0 n0 c0 l0 rs W) (i : Nat) : W.cell? ⟨C, i, none⟩ = cs[i]? := by
  rw [blk_cell h.mw.blk, List.getElem?_toArray]
theorem WN.f {w W : World} {p C B : Nat} {cs : List Value} {A0 : Option Addr} {n0 c0 : Nat} {l0 : List Val} {rs : List IR} (h : WN w p C B cs A0 n0 c0 l0 rs W) (i : Nat) : W.frozen? ⟨C, i, none⟩ = false := blk_free h.mw.blk i
theorem ints_snoc (xs : List Int) (x : Int) : ints (xs ++ [x]) = ints xs ++ [.int .i64 x] := by simp [ints]
theorem vals_snoc (l : List Val) (v : Val) : valc (l ++ [v]) = valc l ++ [.int .i64 v.a, .int .i64 v.b, .string v.s] := by rw [valc_append, valc_one]; rfl
theorem own_or {A : Option Addr} {n c n' c' g H : Nat} (h : (Value.slice A n c).ownBlock = some g ∨ g = H) : (Value.slice (some ⟨g, 0, none⟩) n' c').ownBlock = (Value.slice A n c).ownBlock ∨ (Value.slice (some ⟨g, 0, none⟩) n' c').ownBlock = some H :=
  h.elim (fun e => .inl e.symm) (fun e => .inr (congrArg some e))
theorem mem_snoc {α : Type} {P : α → Prop} {l : List α} {x : α} (h : ∀ y ∈ l, P y) (hx : P x) : ∀ y ∈ l ++ [x], P y := fun y hy => by
  rcases List.mem_append.1 hy with h1 | h1
  · exact h y h1
  · rw [List.mem_singleton.1 h1]; exact hx
/-- A cell of a table that has just been made. -/
theorem tab_cell (W : World) (tab : List Int) (i : Nat) (hi : i < tab.length) : (W.alloc (.cells (ints tab).toArray 3)).cell? ⟨W.heap.size, i, none⟩ = some (.int .i64 (tab.getD i 0)) := by
  rw [blk_cell (heap_alloc_new W (.cells (ints tab).toArray 3)) i, List.getElem?_toArray]
  simp [ints, hi]
theorem right_of {d : WD} (h0 : ∀ v ∈ d.ins, PL v = true) (n0 : d.ins.length ≤ 1000) (h1 : ∀ x ∈ d.clocks, -1000000000000000 ≤ x ∧ x ≤ 1000000000000000) (n1 : d.clocks.length ≤ 1000) (h2 : ∀ x ∈ d.choices, -1000000000 ≤ x ∧ x ≤ 1000000000) (n2 : d.choices.length ≤ 1000)
    (h3 : ∀ x ∈ d.fuel, 0 ≤ x ∧ x ≤ 1000000000000000) (n3 : d.fuel.length ≤ 4) (h4 : ∀ x ∈ d.limit, 0 ≤ x ∧ x ≤ 30000) (n4 : d.fuel.length = d.limit.length) (he : 0 ≤ d.epoch ∧ d.epoch ≤ 1000000000) (hp : 0 < d.fuel.length) : d.right = true := by
  have r : ∀ {lo hi : Int} {xs : List Int}, (∀ x ∈ xs, lo ≤ x ∧ x ≤ hi) → allR lo hi xs = true := fun h => allR_yes (fun j hj => by have := h _ (getD_mem (x := 0) hj); simp only [inR, Bool.and_eq_true, decide_eq_true_eq]; exact this)
  have e0 : r0 d = true := by unfold r0; rw [allP_yes (fun j hj => h0 _ (getD_mem hj))]; simp; omega
  have e1 : r1 d = true := by unfold r1; rw [r h1]; simp; omega
  have e2 : r2 d = true := by unfold r2; rw [r h2]; simp; omega
  have e3 : r3 d = true := by unfold r3; rw [r h3]; simp; omega
  have e4 : r4 d = true := by unfold r4; rw [r h4]; simp; omega
  have e5 : r5 d = true := by unfold r5 inR; simp; omega
  have e6 : r6 d = true := by unfold r6; simpa using hp
  have e7 : r7 d = true := by unfold r7; simpa using n4
  unfold WD.right
  rw [e0, e1, e2, e3, e4, e5, e6, e7]
  rfl
theorem heap_alloc_new2 (w : World) (o o' : Obj) : ((w.alloc o).alloc o').heap[w.heap.size + 1]? = some o' := by simpa using heap_alloc_new (w.alloc o) o'
theorem keep_alloc_drew (w : World) (o : Obj) : Keep (fun _ => False) w.drew (w.alloc o).drew := ⟨rfl, rfl, rfl, ((Keep.refl (fun _ => False) w).alloc' o).size, ((Keep.refl (fun _ => False) w).alloc' o).block⟩
theorem tab_in {P : Int → Prop} {tab : List Int} (h : ∀ x ∈ tab, P x) {i : Nat} (hi : i < tab.length) : P (tab.getD i 0) := h _ (getD_mem hi)

set_option maxRecDepth 100000 in
set_option maxHeartbeats 8000000 in
theorem world_any {w : World} {AL : Option Addr} {nl cl : Nat} {xs : List Int} (hA : IntsAt w AL nl xs) (hn : nl ≤ 140737488351232) :
    Calls Try.prog 27 #[.slice AL nl cl] w (WOut (fun d => d.right = true ∧ 0 < d.fuel.length) w) := by
  have HA := Lib.hid hA
  have HB := Lib.hid (show 0 < nl → ∀ b, AL = some b → b.block < w.heap.size from fun h b e => by
    obtain ⟨b', off, e', hl, _⟩ := hA.2.2 h
    rw [e] at e'
    injection e' with e'
    rw [e']
    exact hl)
  clear hA
  go_enter Try.func27, Try.ntmps27
  go_wp2_with fail
  have V0 : Hid (WN w (w.heap.size + 1) (w.heap.size + 1 + 1) w.heap.size [.slice none 0 0, .slice none 0 0, .slice none 0 0, .slice none 0 0, .slice none 0 0, .int .i64 0] none 0 0 [] [⟨none, 0, 0, []⟩, ⟨none, 0, 0, []⟩, ⟨none, 0, 0, []⟩, ⟨none, 0, 0, []⟩]
      (((w.alloc (.cells #[.slice none 0 0, .slice none 0 0, .slice none 0 0, .slice none 0 0, .slice none 0 0, .int .i64 0] 63)).alloc (.cells #[.slice AL nl cl, .int .i64 0] 81)).alloc (.cells #[.slice none 0 0, .slice none 0 0, .slice none 0 0, .slice none 0 0, .slice none 0 0, .int .i64 0] 63))) := by
    have k0 := (Keep.refl (fun _ => False) w).alloc' (.cells #[.slice none 0 0, .slice none 0 0, .slice none 0 0, .slice none 0 0, .slice none 0 0, .int .i64 0] 63)
    have k1 := k0.alloc' (.cells #[.slice AL nl cl, .int .i64 0] 81)
    have k2 := k1.alloc' (.cells #[.slice none 0 0, .slice none 0 0, .slice none 0 0, .slice none 0 0, .slice none 0 0, .int .i64 0] 63)
    refine Lib.hid ⟨⟨?_, World.ownsRow_nil _ _ _ _, RA.nils _ _ _ (by simp), Since.of k2, by omega, ?_, by omega⟩, ⟨AL, nl, cl, xs, 0, ?_, Nat.zero_le _, hn, HA.out.keep k2 (fun _ _ => id), HB.out, by omega⟩⟩
    · have := heap_alloc_new ((w.alloc (.cells #[.slice none 0 0, .slice none 0 0, .slice none 0 0, .slice none 0 0, .slice none 0 0, .int .i64 0] 63)).alloc (.cells #[.slice AL nl cl, .int .i64 0] 81)) (.cells #[.slice none 0 0, .slice none 0 0, .slice none 0 0, .slice none 0 0, .slice none 0 0, .int .i64 0] 63)
      simpa using this
    · exact alloc_old' (alloc_old' (heap_alloc_new w _))
    · have := heap_alloc_new (w.alloc (.cells #[.slice none 0 0, .slice none 0 0, .slice none 0 0, .slice none 0 0, .slice none 0 0, .int .i64 0] 63)) (.cells #[.slice AL nl cl, .int .i64 0] 81)
      exact alloc_old' (by simpa using this)
  obtain ⟨W0, hW⟩ : ∃ W0, (((w.alloc (.cells #[.slice none 0 0, .slice none 0 0, .slice none 0 0, .slice none 0 0, .slice none 0 0, .int .i64 0] 63)).alloc (.cells #[.slice AL nl cl, .int .i64 0] 81)).alloc (.cells #[.slice none 0 0, .slice none 0 0, .slice none 0 0, .slice none 0 0, .slice none 0 0, .int .i64 0] 63)) = W0 := ⟨_, rfl⟩
  rw [hW] at V0
  rw [hW]
  clear hW
  obtain ⟨p, hp⟩ : ∃ p, w.heap.size + 1 = p := ⟨_, rfl⟩
  rw [hp] at V0 ⊢
  obtain ⟨C, hC⟩ : ∃ C, p + 1 = C := ⟨_, rfl⟩
  rw [hC] at V0 ⊢
  obtain ⟨B, hB⟩ : ∃ B, w.heap.size = B := ⟨_, rfl⟩
  have LB := Lib.hid (show w.heap.size ≤ B by omega)
  have V00 : Hid (WN w p C B [.slice none 0 0, .slice none 0 0, .slice none 0 0, .slice none 0 0, .slice none 0 0, .int .i64 0] none 0 0 [] [⟨none, 0, 0, []⟩, ⟨none, 0, 0, []⟩, ⟨none, 0, 0, []⟩, ⟨none, 0, 0, []⟩] W0) := Lib.hid (hB ▸ V0.out)
  rw [hB]
  clear hB hC hp V0
  obtain ⟨i0, hi, hz0, hz1, hz2⟩ := info_parts (show (Try.prog.info? 75).map (fun i => (i.zero, i.size, i.bytes)) = some (some (.agg #[.int .i64 0, .int .i64 0, .string ⟨#[]⟩]), 3, 32) by kernel_rfl)
  obtain ⟨j0, gi, gz0, gz1, gz2⟩ := info_parts (show (Try.prog.info? 3).map (fun i => (i.zero, i.size, i.bytes)) = some (some (.int .i64 0), 1, 8) by kernel_rfl)
  have HI := Lib.hid hi
  have HZ0 := Lib.hid hz0
  have HZ1 := Lib.hid hz1
  have HZ2 := Lib.hid hz2
  have GI := Lib.hid gi
  have GZ0 := Lib.hid gz0
  have GZ1 := Lib.hid gz1
  have GZ2 := Lib.hid gz2
  clear hi hz0 hz1 hz2 gi gz0 gz1 gz2
  ((with_reducible refine (next1_any V00.out.nv 5 (by omega)).mono ?_); rintro e w1 ⟨r0, rfl, hr, hN1, hk1⟩)
  have V1 := Lib.hid (V00.out.next hN1 hk1)
  obtain ⟨N0, rfl⟩ := Int.eq_ofNat_of_zero_le hr.1
  have hN05 : N0 ≤ 4 := by omega
  clear hN1 hk1 hr V00
  go_wp2_with fail
  go_loopw [6] (fun i wr => ∃ k0 : Nat, k0 ≤ N0 ∧ i = .int .i64 (k0 : Int) ∧ ∃ (A0 : Option Addr) (c0 : Nat) (l0 : List Val), Hid (WN w p C B [.slice A0 k0 c0, .slice none 0 0, .slice none 0 0, .slice none 0 0, .slice none 0 0, .int .i64 0] A0 k0 c0 l0 [⟨none, 0, 0, []⟩, ⟨none, 0, 0, []⟩, ⟨none, 0, 0, []⟩, ⟨none, 0, 0, []⟩] wr) ∧ Hid (∀ v ∈ l0, PL v = true ∧ PlainS v.s)) (fun i _ => N0 + 1 - (intOf i).toNat)
  case atStart => exact ⟨0, Nat.zero_le _, rfl, _, _, _, V1, Lib.hid (by simp)⟩
  case round =>
    obtain ⟨k0, hk, rfl, A0, c0, l0, VV0, HP0⟩ := hrel
    obtain ⟨wo, rfl⟩ : ∃ wo : World, wo = wr := ⟨_, rfl⟩
    clear V1
    by_cases hlt : k0 < N0
    · have hb : decide (k0 < N0) = true := by simpa using hlt
      have VX := Lib.hid (VV0.out.quiet (keep_draw _ wo))
      have d0 : wo.cell? ⟨C, 0, none⟩ = some (.slice A0 k0 c0) := VV0.out.c 0
      have hk3 : k0 < 4 := by omega
      have hkN := hlt
      clear hlt
      go_wp2_with fail
      go_region_law (first
          | (go_simp; go_at_call 35; refine (next1_any VX.out.nv 200 (by omega)).mono ?_; rintro e wv ⟨r, rfl, hr, hN, hk⟩; replace VX := Lib.hid (VX.out.next hN hk); have d0 : wv.cell? ⟨C, 0, none⟩ = some (.slice A0 k0 c0) := VX.out.c 0; have d0' := fun o => cell_kept ((Keep.refl (fun _ => False) wv).alloc' o) d0 id; have HR := Lib.hid hr; clear hr hN hk)
          | (go_simp; go_at_call 36; refine (const_any r (by have := HR.out; omega) _).mono ?_; rintro e wq ⟨v, rfl, hpl, hps, hk⟩; replace VX := Lib.hid (VX.out.quiet hk); have d0 : wq.cell? ⟨C, 0, none⟩ = some (.slice A0 k0 c0) := VX.out.c 0; have d0' := fun o => cell_kept ((Keep.refl (fun _ => False) wq).alloc' o) d0 id; have HV := Lib.hid (And.intro hpl hps); clear hpl hps hk HR)
          | (refine step_append_lies _ rfl (.tmp 21) (.tmp 25) 52 rfl w.heap.size 75 i0 _ 3 32 Try.underlying52 HI.out HZ0.out HZ1.out HZ2.out rfl (by decide) (.slice A0 k0 c0) k0 (valc l0) rfl (by exact VX.out.mw.ins.alloc _) ⟨_, 0, none⟩ 1 1 _ rfl rfl (by exact World.news_of_block (heap_alloc_new _ _)) (by simp [Value.oneCell']) (by omega) (by unfold maxLen; omega) (by omega) (by have := VX.out.mw.since.size; simp; omega) _ rfl ?_; intro g cap w1 hown hgrow hat hlt; have VY := Lib.hid ((VX.out.quiet ((Keep.refl _ wq).alloc' _)).grow0 (l := l0 ++ [v]) hgrow (by rw [vals_snoc]; exact hown)); have f0 := VY.out.f 0; have d0 : w1.cell? ⟨C, 0, none⟩ = some (.slice A0 k0 c0) := VY.out.c 0; have HQ := Lib.hid (mem_snoc HP0.out HV.out); clear hown hgrow hat hlt HV))
      all_goals go_wp2_with fail
      all_goals exact ⟨⟨k0 + 1, by omega, by go_num, _, _, _, Lib.hid (VY.out.set 0 _), HQ⟩, by simp [intOf]; omega⟩
    · have hb : decide (k0 < N0) = false := by simpa using hlt
      obtain rfl : k0 = N0 := by omega
      go_wp2_with fail
      ((with_reducible refine (next1_any VV0.out.nv 4 (by omega)).mono ?_); rintro e w1a ⟨r, rfl, hr, hN1, hk1⟩)
      have V1 := Lib.hid (VV0.out.next hN1 hk1)
      obtain ⟨N1, rfl⟩ := Int.eq_ofNat_of_zero_le hr.1
      have hN15 : N1 ≤ 3 := by omega
      clear hN1 hk1 hr VV0
      go_wp2_with fail
      go_loopw [7] (fun i wr => ∃ k1 : Nat, k1 ≤ N1 ∧ i = .int .i64 (k1 : Int) ∧ ∃ (A1 : Option Addr) (c1 : Nat) (y1 : List Int), Hid (WN w p C B [.slice A0 k0 c0, .slice A1 k1 c1, .slice none 0 0, .slice none 0 0, .slice none 0 0, .int .i64 0] A0 k0 c0 l0 [⟨A1, k1, c1, y1⟩, ⟨none, 0, 0, []⟩, ⟨none, 0, 0, []⟩, ⟨none, 0, 0, []⟩] wr) ∧ Hid (∀ x ∈ y1, -3 ≤ x ∧ x ≤ 97)) (fun i _ => N1 + 1 - (intOf i).toNat)
      case atStart => exact ⟨0, Nat.zero_le _, rfl, _, _, _, V1, Lib.hid (by simp)⟩
      case round =>
        obtain ⟨k1, hk, rfl, A1, c1, y1, VV1, HP1⟩ := hrel
        obtain ⟨wo, rfl⟩ : ∃ wo : World, wo = wr := ⟨_, rfl⟩
        clear V1
        by_cases hlt : k1 < N1
        · have hb : decide (k1 < N1) = true := by simpa using hlt
          have VX := Lib.hid (VV1.out.quiet (keep_draw _ wo))
          have d1 : wo.cell? ⟨C, 1, none⟩ = some (.slice A1 k1 c1) := VV1.out.c 1
          have hk3 : k1 < 4 := by omega
          have hkN := hlt
          clear hlt
          go_wp2_with fail
          go_region_law (first
              | (go_simp; go_at_call 35; refine (next1_any VX.out.nv 100 (by omega)).mono ?_; rintro e wv ⟨r, rfl, hr, hN, hk⟩; replace VX := Lib.hid (VX.out.next hN hk); have d1 : wv.cell? ⟨C, 1, none⟩ = some (.slice A1 k1 c1) := VX.out.c 1; have d1' := fun o => cell_kept ((Keep.refl (fun _ => False) wv).alloc' o) d1 id; have HR := Lib.hid hr; clear hr hN hk)
              | (refine step_append_lies _ rfl (.tmp 36) (.tmp 40) 22 rfl w.heap.size 3 j0 _ 1 8 Try.underlying22 GI.out GZ0.out GZ1.out GZ2.out rfl (by decide) (.slice A1 k1 c1) k1 (ints y1) rfl (by exact (VX.out.mw.rows.own ⟨A1, k1, c1, y1⟩ (by simp)).alloc _) ⟨_, 0, none⟩ 1 1 [.int .i64 (IntKind.i64.wrap (r - 3))] rfl rfl (by exact World.news_of_block (heap_alloc_new _ _)) (by simp [Value.oneCell']) (by omega) (by unfold maxLen; omega) (by omega) (by have := VX.out.mw.since.size; simp; omega) _ rfl ?_; intro g cap w1 hown hgrow hat hlt; have VY := Lib.hid ((VX.out.quiet ((Keep.refl _ wv).alloc' _)).growi 0 ⟨A1, k1, c1, y1⟩ rfl (xs := y1 ++ [IntKind.i64.wrap (r - 3)]) hgrow (by rw [ints_snoc]; exact hown) (own_or hat)); have f1 := VY.out.f 1; have d1 : w1.cell? ⟨C, 1, none⟩ = some (.slice A1 k1 c1) := VY.out.c 1; have HQ := Lib.hid (mem_snoc (x := IntKind.i64.wrap (r - 3)) HP1.out (by have := HR.out; (try rw [IntKind.wrap_i64]); omega)); clear hown hgrow hat hlt HR))
          all_goals go_wp2_with fail
          all_goals exact ⟨⟨k1 + 1, by omega, by go_num, _, _, _, Lib.hid (VY.out.set 1 _), HQ⟩, by simp [intOf]; omega⟩
        · have hb : decide (k1 < N1) = false := by simpa using hlt
          obtain rfl : k1 = N1 := by omega
          go_wp2_with fail
          ((with_reducible refine (next1_any VV1.out.nv 5 (by omega)).mono ?_); rintro e w2a ⟨r, rfl, hr, hN1, hk1⟩)
          have V2 := Lib.hid (VV1.out.next hN1 hk1)
          obtain ⟨N2, rfl⟩ := Int.eq_ofNat_of_zero_le hr.1
          have hN25 : N2 ≤ 4 := by omega
          clear hN1 hk1 hr VV1
          go_wp2_with fail
          go_loopw [8] (fun i wr => ∃ k2 : Nat, k2 ≤ N2 ∧ i = .int .i64 (k2 : Int) ∧ ∃ (A2 : Option Addr) (c2 : Nat) (y2 : List Int), Hid (WN w p C B [.slice A0 k0 c0, .slice A1 k1 c1, .slice A2 k2 c2, .slice none 0 0, .slice none 0 0, .int .i64 0] A0 k0 c0 l0 [⟨A1, k1, c1, y1⟩, ⟨A2, k2, c2, y2⟩, ⟨none, 0, 0, []⟩, ⟨none, 0, 0, []⟩] wr) ∧ Hid (∀ x ∈ y2, 0 ≤ x ∧ x ≤ 8)) (fun i _ => N2 + 1 - (intOf i).toNat)
          case atStart => exact ⟨0, Nat.zero_le _, rfl, _, _, _, V2, Lib.hid (by simp)⟩
          case round =>
            obtain ⟨k2, hk, rfl, A2, c2, y2, VV2, HP2⟩ := hrel
            obtain ⟨wo, rfl⟩ : ∃ wo : World, wo = wr := ⟨_, rfl⟩
            clear V2
            by_cases hlt : k2 < N2
            · have hb : decide (k2 < N2) = true := by simpa using hlt
              have VX := Lib.hid (VV2.out.quiet (keep_draw _ wo))
              have d2 : wo.cell? ⟨C, 2, none⟩ = some (.slice A2 k2 c2) := VV2.out.c 2
              have hk3 : k2 < 5 := by omega
              have hkN := hlt
              clear hlt
              go_wp2_with fail
              go_region_law (first
                  | (go_simp; go_at_call 35; refine (next1_any VX.out.nv 9 (by omega)).mono ?_; rintro e wv ⟨r, rfl, hr, hN, hk⟩; replace VX := Lib.hid (VX.out.next hN hk); have d2 : wv.cell? ⟨C, 2, none⟩ = some (.slice A2 k2 c2) := VX.out.c 2; have d2' := fun o => cell_kept ((Keep.refl (fun _ => False) wv).alloc' o) d2 id; have HR := Lib.hid hr; clear hr hN hk)
                  | (refine step_append_lies _ rfl (.tmp 51) (.tmp 54) 22 rfl w.heap.size 3 j0 _ 1 8 Try.underlying22 GI.out GZ0.out GZ1.out GZ2.out rfl (by decide) (.slice A2 k2 c2) k2 (ints y2) rfl (by exact (VX.out.mw.rows.own ⟨A2, k2, c2, y2⟩ (by simp)).alloc _) ⟨_, 0, none⟩ 1 1 [.int .i64 (r)] rfl rfl (by exact World.news_of_block (heap_alloc_new _ _)) (by simp [Value.oneCell']) (by omega) (by unfold maxLen; omega) (by omega) (by have := VX.out.mw.since.size; simp; omega) _ rfl ?_; intro g cap w1 hown hgrow hat hlt; have VY := Lib.hid ((VX.out.quiet ((Keep.refl _ wv).alloc' _)).growi 1 ⟨A2, k2, c2, y2⟩ rfl (xs := y2 ++ [r]) hgrow (by rw [ints_snoc]; exact hown) (own_or hat)); have f2 := VY.out.f 2; have d2 : w1.cell? ⟨C, 2, none⟩ = some (.slice A2 k2 c2) := VY.out.c 2; have HQ := Lib.hid (mem_snoc (x := r) HP2.out (by have := HR.out; (try rw [IntKind.wrap_i64]); omega)); clear hown hgrow hat hlt HR))
              all_goals go_wp2_with fail
              all_goals exact ⟨⟨k2 + 1, by omega, by go_num, _, _, _, Lib.hid (VY.out.set 2 _), HQ⟩, by simp [intOf]; omega⟩
            · have hb : decide (k2 < N2) = false := by simpa using hlt
              obtain rfl : k2 = N2 := by omega
              go_wp2_with fail
              ((with_reducible refine (next1_any VV2.out.nv 3 (by omega)).mono ?_); rintro e w3a ⟨r, rfl, hr, hN1, hk1⟩)
              have V3 := Lib.hid (VV2.out.next hN1 hk1)
              obtain ⟨N3, hN3⟩ := Int.eq_ofNat_of_zero_le (show 0 ≤ 1 + r by omega)
              have hN35 : 1 ≤ N3 ∧ N3 ≤ 3 := by omega
              clear hN1 hk1 hr VV2
              go_wp2_with fail
              clear hN3
              go_loopw [9] (fun i wr => ∃ k3 : Nat, k3 ≤ N3 ∧ i = .int .i64 (k3 : Int) ∧ ∃ (A3 : Option Addr) (c3 : Nat) (y3 : List Int) (A4 : Option Addr) (c4 : Nat) (y4 : List Int), Hid (WN w p C B [.slice A0 k0 c0, .slice A1 k1 c1, .slice A2 k2 c2, .slice A3 k3 c3, .slice A4 k3 c4, .int .i64 0] A0 k0 c0 l0 [⟨A1, k1, c1, y1⟩, ⟨A2, k2, c2, y2⟩, ⟨A3, k3, c3, y3⟩, ⟨A4, k3, c4, y4⟩] wr) ∧ Hid (∀ x ∈ y3, 0 ≤ x ∧ x ≤ 1000000000000000) ∧ Hid (∀ x ∈ y4, 0 ≤ x ∧ x ≤ 30000)) (fun i _ => N3 + 1 - (intOf i).toNat)
              case atStart => exact ⟨0, Nat.zero_le _, rfl, _, _, _, _, _, _, V3, Lib.hid (by simp), Lib.hid (by simp)⟩
              case round =>
                obtain ⟨k3, hk, rfl, A3, c3, y3, A4, c4, y4, VV3, HP3, HP4⟩ := hrel
                obtain ⟨wo, rfl⟩ : ∃ wo : World, wo = wr := ⟨_, rfl⟩
                clear V3
                by_cases hlt : k3 < N3
                · have hb : decide (k3 < N3) = true := by simpa using hlt
                  have hk3 : k3 < 3 := by omega
                  have VSa := VV3
                  go_wp2_with fail
                  have hpla : ¬ (wo.heap.size = p) := by have := VSa.out.nv.lt; omega
                  refine wp_region_drewU (S := (fun w' => Hid (WN w p C B [.slice A0 k0 c0, .slice A1 k1 c1, .slice A2 k2 c2, .slice A3 k3 c3, .slice A4 k3 c4, .int .i64 0] A0 k0 c0 l0 [⟨A1, k1, c1, y1⟩, ⟨A2, k2, c2, y2⟩, ⟨A3, k3, c3, y3⟩, ⟨A4, k3, c4, y4⟩] w'))) (D := [0, 3, 8, 9, 10]) (by kernel_rfl) (by exact Lib.hid (VSa.out.quiet (keep_draw _ wo))) (fun hH => ?_)
                  refine wpAnyU_pure (i := 0) (v := ?_) rfl (by kernel_rfl) (by kernel_rfl) (by kernel_rfl) (by rfl) (fun _ _ _ h => h) (Or.inl ⟨by rfl, ?_⟩) ?_
                  rotate_left
                  · (intro w'' _; go_simp; try with_reducible rfl)
                  change wpAnyU _ _ _ _ _ _ _ _ (Act.put _ (some 65) _) _
                  try simp only [Act.put, List.setIfInBounds_toArray, List.set_cons_zero, List.set_cons_succ]
                  refine wpAnyU_pure (i := 3) (v := ?_) rfl (by kernel_rfl) (by kernel_rfl) (by kernel_rfl) (by rfl) (fun _ _ _ h => h) (Or.inl ⟨by rfl, ?_⟩) ?_
                  rotate_left
                  · (intro w'' _; go_simp; try with_reducible rfl)
                  change wpAnyU _ _ _ _ _ _ _ _ (Act.put _ (some 68) _) _
                  try simp only [Act.put, List.setIfInBounds_toArray, List.set_cons_zero, List.set_cons_succ]
                  refine wpAnyU_take (i := 1) (v := ?_) rfl (by kernel_rfl) (by kernel_rfl) (by kernel_rfl) (by kernel_rfl) (fun _ _ _ h => h) (Or.inl ⟨by rfl, ?_⟩) hH ?_
                  rotate_left
                  · (intro w'' hSw; have hc : w''.cell? ⟨C, 3, none⟩ = some (.slice A3 k3 c3) := hSw.out.c 3; go_simp; try with_reducible rfl)
                  change wpAnyU _ _ _ _ _ _ _ _ (Act.put _ (some 66) _) _
                  try simp only [Act.put, List.setIfInBounds_toArray, List.set_cons_zero, List.set_cons_succ]
                  refine wpAnyU_ready (rs := [2, 4]) (by kernel_rfl) (by simp) ?_
                  refine AllReadyU.cons rfl (fun Kn hKn => ?_) ?_
                  · skip
                    go_simp
                    refine hKn.out _ _ ?_ (fun hH => ?_)
                    · (first | exact Lib.hid (hH.out.quiet ((Keep.refl _ _).alloc' _)) | exact Lib.hid (hH.out.quiet (keep_alloc_drew _ _)) | exact Lib.hid (hH.out.quiet (Keep.trans ((Keep.refl _ _).alloc' _) (keep_draw _ _))))
                    clear hKn Kn
                    try simp only [Act.put, List.setIfInBounds_toArray, List.set_cons_zero, List.set_cons_succ]
                    refine wpAnyU_ready (rs := [4]) (by kernel_rfl) (by simp) ?_
                    refine AllReadyU.cons rfl (fun Kn hKn => ?_) AllReadyU.nil
                    go_simp
                    go_at_call 35
                    refine (next1_any hH.out.nv 5 (by omega)).mono ?_
                    rintro e wva ⟨r, rfl, hr, hN, hk⟩
                    obtain ⟨q, rfl⟩ := Int.eq_ofNat_of_zero_le hr.1
                    have hqa : q < 5 := by omega
                    have hqai : (q : Int) < 5 := by omega
                    obtain ⟨xa, hx⟩ : ∃ x, ([400, 400, 60, 12, 1000000000000000] : List Int).getD q 0 = x := ⟨_, rfl⟩
                    have HXa := Lib.hid (hx ▸ tab_in (P := fun x => 0 ≤ x ∧ x ≤ 1000000000000000) (tab := [400, 400, 60, 12, 1000000000000000]) (by simp) hqa)
                    (first | (have ct : wva.cell? ⟨wo.heap.size, q, none⟩ = some (.int .i64 xa) := hx ▸ cell_kept hk (tab_cell wo [400, 400, 60, 12, 1000000000000000] q hqa) hpla) | skip)
                    have ct' : (wva.alloc (.cells #[.int .i64 400, .int .i64 400, .int .i64 60, .int .i64 12, .int .i64 1000000000000000] 3)).cell? ⟨wva.heap.size, q, none⟩ = some (.int .i64 xa) := hx ▸ tab_cell wva [400, 400, 60, 12, 1000000000000000] q hqa
                    have HN := Lib.hid (hH.out.next hN hk)
                    clear hr hN hk hx hH
                    refine hKn.out _ _ ?_ (fun hH => ?_)
                    · (exact HN)
                    clear hKn Kn
                    try simp only [Act.put, List.setIfInBounds_toArray, List.set_cons_zero, List.set_cons_succ]
                    clear HN
                    refine wpAnyU_ready (rs := [5]) (by kernel_rfl) (by simp) ?_
                    refine AllReadyU.cons rfl (fun Kn hKn => ?_) AllReadyU.nil
                    go_simp
                    refine hKn.out _ _ ?_ (fun hH => ?_)
                    · (exact hH)
                    clear hKn Kn
                    try simp only [Act.put, List.setIfInBounds_toArray, List.set_cons_zero, List.set_cons_succ]
                    refine wpAnyU_ready (rs := [6]) (by kernel_rfl) (by simp) ?_
                    refine AllReadyU.cons rfl (fun Kn hKn => ?_) AllReadyU.nil
                    go_simp
                    refine hKn.out _ _ ?_ (fun hH => ?_)
                    · (exact hH)
                    clear hKn Kn
                    try simp only [Act.put, List.setIfInBounds_toArray, List.set_cons_zero, List.set_cons_succ]
                    refine wpAnyU_ready (rs := [7]) (by kernel_rfl) (by simp) ?_
                    refine AllReadyU.cons rfl (fun Kn hKn => ?_) AllReadyU.nil
                    go_simp
                    refine hKn.out _ _ ?_ (fun hH => ?_)
                    · (first | exact Lib.hid (hH.out.quiet ((Keep.refl _ _).alloc' _)) | exact Lib.hid (hH.out.quiet (keep_alloc_drew _ _)) | exact Lib.hid (hH.out.quiet (Keep.trans ((Keep.refl _ _).alloc' _) (keep_draw _ _))))
                    clear hKn Kn
                    try simp only [Act.put, List.setIfInBounds_toArray, List.set_cons_zero, List.set_cons_succ]
                    refine wpAnyU_ready (rs := [8]) (by kernel_rfl) (by simp) ?_
                    refine AllReadyU.last rfl (by rfl) (fun Kn hKn => ?_) AllReadyU.nil
                    refine step_append_lies _ rfl (.tmp 66) (.tmp 72) 22 rfl w.heap.size 3 j0 _ 1 8 Try.underlying22 GI.out GZ0.out GZ1.out GZ2.out rfl (by decide) (.slice A3 k3 c3) k3 (ints y3) rfl (hH.out.mw.rows.own ⟨A3, k3, c3, y3⟩ (by simp)) ⟨_, 0, none⟩ 1 1 [.int .i64 xa] rfl rfl (by first | exact World.news_of_block (heap_alloc_new _ _) | exact World.news_of_block (heap_alloc_new2 _ _ _)) (by simp [Value.oneCell']) (by omega) (by unfold maxLen; omega) (by omega) (by have := hH.out.mw.since.size; simpa using this) _ rfl ?_
                    intro ga capa w1a hown hgrow hat hlt
                    have VYa := Lib.hid (hH.out.growi 2 ⟨A3, k3, c3, y3⟩ rfl (xs := y3 ++ [xa]) hgrow (by rw [ints_snoc]; exact hown) (own_or hat))
                    have f3 := VYa.out.f 3
                    have d3 : w1a.cell? ⟨C, 3, none⟩ = some (.slice A3 k3 c3) := VYa.out.c 3
                    have HQa := Lib.hid (mem_snoc (x := xa) HP3.out HXa.out)
                    clear hown hgrow hat hlt HXa hH
                    refine hKn.out _ _ ?_
                    clear hKn Kn
                    try simp only [Act.put, List.setIfInBounds_toArray, List.set_cons_zero, List.set_cons_succ]
                    refine wpAnyU_pure (i := 9) (v := ?_) rfl (by kernel_rfl) (by kernel_rfl) (by kernel_rfl) (by rfl) (fun _ _ _ h => h) (Or.inl ⟨by rfl, ?_⟩) ?_
                    rotate_left
                    · (intro w'' _; go_simp; try with_reducible rfl)
                    change wpAnyU _ _ _ _ _ _ _ _ (Act.put _ (some 74) _) _
                    try simp only [Act.put, List.setIfInBounds_toArray, List.set_cons_zero, List.set_cons_succ]
                    refine wpAnyU_ready (rs := [10]) (by kernel_rfl) (by simp) ?_
                    refine AllReadyU.last rfl (by rfl) (fun Kn hKn => ?_) AllReadyU.nil
                    go_simp
                    refine hKn.out _ _ ?_
                    clear hKn Kn
                    try simp only [Act.put, List.setIfInBounds_toArray, List.set_cons_zero, List.set_cons_succ]
                    refine wpAnyU_done (by kernel_rfl) ?_ _
                    have VSb : Hid (WN w p C B [.slice A0 k0 c0, .slice A1 k1 c1, .slice A2 k2 c2, .slice (some ⟨ga, 0, none⟩) (k3 + 1) capa, .slice A4 k3 c4, .int .i64 0] A0 k0 c0 l0 [⟨A1, k1, c1, y1⟩, ⟨A2, k2, c2, y2⟩, ⟨some ⟨ga, 0, none⟩, k3 + 1, capa, y3 ++ [xa]⟩, ⟨A4, k3, c4, y4⟩] (w1a.setCell ⟨C, 3, none⟩ (.slice (some ⟨ga, 0, none⟩) (k3 + 1) capa))) := Lib.hid (VYa.out.set 3 _)
                    go_wp2_with fail
                    obtain ⟨wz, hwz⟩ : ∃ wz, w1a.setCell ⟨C, 3, none⟩ (.slice (some ⟨ga, 0, none⟩) (k3 + 1) capa) = wz := ⟨_, rfl⟩
                    rw [hwz] at VSb
                    rw [hwz]
                    clear hwz f3 d3 VYa hpla
                    (try clear ct)
                    clear ct'
                    have hplb : ¬ (wz.heap.size = p) := by have := VSb.out.nv.lt; omega
                    refine wp_region_drewU (S := (fun w' => Hid (WN w p C B [.slice A0 k0 c0, .slice A1 k1 c1, .slice A2 k2 c2, .slice (some ⟨ga, 0, none⟩) (k3 + 1) capa, .slice A4 k3 c4, .int .i64 0] A0 k0 c0 l0 [⟨A1, k1, c1, y1⟩, ⟨A2, k2, c2, y2⟩, ⟨some ⟨ga, 0, none⟩, k3 + 1, capa, y3 ++ [xa]⟩, ⟨A4, k3, c4, y4⟩] w'))) (D := [0, 3, 8, 9, 10]) (by kernel_rfl) (by exact Lib.hid (VSb.out.quiet (keep_draw _ wz))) (fun hH => ?_)
                    refine wpAnyU_pure (i := 0) (v := ?_) rfl (by kernel_rfl) (by kernel_rfl) (by kernel_rfl) (by rfl) (fun _ _ _ h => h) (Or.inl ⟨by rfl, ?_⟩) ?_
                    rotate_left
                    · (intro w'' _; go_simp; try with_reducible rfl)
                    change wpAnyU _ _ _ _ _ _ _ _ (Act.put _ (some 75) _) _
                    try simp only [Act.put, List.setIfInBounds_toArray, List.set_cons_zero, List.set_cons_succ]
                    refine wpAnyU_pure (i := 3) (v := ?_) rfl (by kernel_rfl) (by kernel_rfl) (by kernel_rfl) (by rfl) (fun _ _ _ h => h) (Or.inl ⟨by rfl, ?_⟩) ?_
                    rotate_left
                    · (intro w'' _; go_simp; try with_reducible rfl)
                    change wpAnyU _ _ _ _ _ _ _ _ (Act.put _ (some 78) _) _
                    try simp only [Act.put, List.setIfInBounds_toArray, List.set_cons_zero, List.set_cons_succ]
                    refine wpAnyU_take (i := 1) (v := ?_) rfl (by kernel_rfl) (by kernel_rfl) (by kernel_rfl) (by kernel_rfl) (fun _ _ _ h => h) (Or.inl ⟨by rfl, ?_⟩) hH ?_
                    rotate_left
                    · (intro w'' hSw; have hc : w''.cell? ⟨C, 4, none⟩ = some (.slice A4 k3 c4) := hSw.out.c 4; go_simp; try with_reducible rfl)
                    change wpAnyU _ _ _ _ _ _ _ _ (Act.put _ (some 76) _) _
                    try simp only [Act.put, List.setIfInBounds_toArray, List.set_cons_zero, List.set_cons_succ]
                    refine wpAnyU_ready (rs := [2, 4]) (by kernel_rfl) (by simp) ?_
                    refine AllReadyU.cons rfl (fun Kn hKn => ?_) ?_
                    · skip
                      go_simp
                      refine hKn.out _ _ ?_ (fun hH => ?_)
                      · (first | exact Lib.hid (hH.out.quiet ((Keep.refl _ _).alloc' _)) | exact Lib.hid (hH.out.quiet (keep_alloc_drew _ _)) | exact Lib.hid (hH.out.quiet (Keep.trans ((Keep.refl _ _).alloc' _) (keep_draw _ _))))
                      clear hKn Kn
                      try simp only [Act.put, List.setIfInBounds_toArray, List.set_cons_zero, List.set_cons_succ]
                      refine wpAnyU_ready (rs := [4]) (by kernel_rfl) (by simp) ?_
                      refine AllReadyU.cons rfl (fun Kn hKn => ?_) AllReadyU.nil
                      go_simp
                      go_at_call 35
                      refine (next1_any hH.out.nv 5 (by omega)).mono ?_
                      rintro e wvb ⟨r, rfl, hr, hN, hk⟩
                      obtain ⟨q, rfl⟩ := Int.eq_ofNat_of_zero_le hr.1
                      have hqb : q < 5 := by omega
                      have hqbi : (q : Int) < 5 := by omega
                      obtain ⟨xb, hx⟩ : ∃ x, ([2000, 2000, 200, 72, 30000] : List Int).getD q 0 = x := ⟨_, rfl⟩
                      have HXb := Lib.hid (hx ▸ tab_in (P := fun x => 0 ≤ x ∧ x ≤ 30000) (tab := [2000, 2000, 200, 72, 30000]) (by simp) hqb)
                      (first | (have ct : wvb.cell? ⟨wz.heap.size, q, none⟩ = some (.int .i64 xb) := hx ▸ cell_kept hk (tab_cell wz [2000, 2000, 200, 72, 30000] q hqb) hplb) | skip)
                      have ct' : (wvb.alloc (.cells #[.int .i64 2000, .int .i64 2000, .int .i64 200, .int .i64 72, .int .i64 30000] 3)).cell? ⟨wvb.heap.size, q, none⟩ = some (.int .i64 xb) := hx ▸ tab_cell wvb [2000, 2000, 200, 72, 30000] q hqb
                      have HN := Lib.hid (hH.out.next hN hk)
                      clear hr hN hk hx hH
                      refine hKn.out _ _ ?_ (fun hH => ?_)
                      · (exact HN)
                      clear hKn Kn
                      try simp only [Act.put, List.setIfInBounds_toArray, List.set_cons_zero, List.set_cons_succ]
                      clear HN
                      refine wpAnyU_ready (rs := [5]) (by kernel_rfl) (by simp) ?_
                      refine AllReadyU.cons rfl (fun Kn hKn => ?_) AllReadyU.nil
                      go_simp
                      refine hKn.out _ _ ?_ (fun hH => ?_)
                      · (exact hH)
                      clear hKn Kn
                      try simp only [Act.put, List.setIfInBounds_toArray, List.set_cons_zero, List.set_cons_succ]
                      refine wpAnyU_ready (rs := [6]) (by kernel_rfl) (by simp) ?_
                      refine AllReadyU.cons rfl (fun Kn hKn => ?_) AllReadyU.nil
                      go_simp
                      refine hKn.out _ _ ?_ (fun hH => ?_)
                      · (exact hH)
                      clear hKn Kn
                      try simp only [Act.put, List.setIfInBounds_toArray, List.set_cons_zero, List.set_cons_succ]
                      refine wpAnyU_ready (rs := [7]) (by kernel_rfl) (by simp) ?_
                      refine AllReadyU.cons rfl (fun Kn hKn => ?_) AllReadyU.nil
                      go_simp
                      refine hKn.out _ _ ?_ (fun hH => ?_)
                      · (first | exact Lib.hid (hH.out.quiet ((Keep.refl _ _).alloc' _)) | exact Lib.hid (hH.out.quiet (keep_alloc_drew _ _)) | exact Lib.hid (hH.out.quiet (Keep.trans ((Keep.refl _ _).alloc' _) (keep_draw _ _))))
                      clear hKn Kn
                      try simp only [Act.put, List.setIfInBounds_toArray, List.set_cons_zero, List.set_cons_succ]
                      refine wpAnyU_ready (rs := [8]) (by kernel_rfl) (by simp) ?_
                      refine AllReadyU.last rfl (by rfl) (fun Kn hKn => ?_) AllReadyU.nil
                      refine step_append_lies _ rfl (.tmp 76) (.tmp 82) 22 rfl w.heap.size 3 j0 _ 1 8 Try.underlying22 GI.out GZ0.out GZ1.out GZ2.out rfl (by decide) (.slice A4 k3 c4) k3 (ints y4) rfl (hH.out.mw.rows.own ⟨A4, k3, c4, y4⟩ (by simp)) ⟨_, 0, none⟩ 1 1 [.int .i64 xb] rfl rfl (by first | exact World.news_of_block (heap_alloc_new _ _) | exact World.news_of_block (heap_alloc_new2 _ _ _)) (by simp [Value.oneCell']) (by omega) (by unfold maxLen; omega) (by omega) (by have := hH.out.mw.since.size; simpa using this) _ rfl ?_
                      intro gb capb w1b hown hgrow hat hlt
                      have VYb := Lib.hid (hH.out.growi 3 ⟨A4, k3, c4, y4⟩ rfl (xs := y4 ++ [xb]) hgrow (by rw [ints_snoc]; exact hown) (own_or hat))
                      have f4 := VYb.out.f 4
                      have d4 : w1b.cell? ⟨C, 4, none⟩ = some (.slice A4 k3 c4) := VYb.out.c 4
                      have HQb := Lib.hid (mem_snoc (x := xb) HP4.out HXb.out)
                      clear hown hgrow hat hlt HXb hH
                      refine hKn.out _ _ ?_
                      clear hKn Kn
                      try simp only [Act.put, List.setIfInBounds_toArray, List.set_cons_zero, List.set_cons_succ]
                      refine wpAnyU_pure (i := 9) (v := ?_) rfl (by kernel_rfl) (by kernel_rfl) (by kernel_rfl) (by rfl) (fun _ _ _ h => h) (Or.inl ⟨by rfl, ?_⟩) ?_
                      rotate_left
                      · (intro w'' _; go_simp; try with_reducible rfl)
                      change wpAnyU _ _ _ _ _ _ _ _ (Act.put _ (some 84) _) _
                      try simp only [Act.put, List.setIfInBounds_toArray, List.set_cons_zero, List.set_cons_succ]
                      refine wpAnyU_ready (rs := [10]) (by kernel_rfl) (by simp) ?_
                      refine AllReadyU.last rfl (by rfl) (fun Kn hKn => ?_) AllReadyU.nil
                      go_simp
                      refine hKn.out _ _ ?_
                      clear hKn Kn
                      try simp only [Act.put, List.setIfInBounds_toArray, List.set_cons_zero, List.set_cons_succ]
                      refine wpAnyU_done (by kernel_rfl) ?_ _
                      go_wp2_with fail
                      exact ⟨⟨k3 + 1, by omega, by go_num, _, _, _, _, _, _, Lib.hid (VYb.out.set 4 _), HQa, HQb⟩, by simp [intOf]; omega⟩
                    refine AllReadyU.cons rfl (fun Kn hKn => ?_) ?_
                    · skip
                      go_simp
                      go_at_call 35
                      refine (next1_any hH.out.nv 5 (by omega)).mono ?_
                      rintro e wvb ⟨r, rfl, hr, hN, hk⟩
                      obtain ⟨q, rfl⟩ := Int.eq_ofNat_of_zero_le hr.1
                      have hqb : q < 5 := by omega
                      have hqbi : (q : Int) < 5 := by omega
                      obtain ⟨xb, hx⟩ : ∃ x, ([2000, 2000, 200, 72, 30000] : List Int).getD q 0 = x := ⟨_, rfl⟩
                      have HXb := Lib.hid (hx ▸ tab_in (P := fun x => 0 ≤ x ∧ x ≤ 30000) (tab := [2000, 2000, 200, 72, 30000]) (by simp) hqb)
                      (first | (have ct : wvb.cell? ⟨wz.heap.size, q, none⟩ = some (.int .i64 xb) := hx ▸ cell_kept hk (tab_cell wz [2000, 2000, 200, 72, 30000] q hqb) hplb) | skip)
                      have ct' : (wvb.alloc (.cells #[.int .i64 2000, .int .i64 2000, .int .i64 200, .int .i64 72, .int .i64 30000] 3)).cell? ⟨wvb.heap.size, q, none⟩ = some (.int .i64 xb) := hx ▸ tab_cell wvb [2000, 2000, 200, 72, 30000] q hqb
                      have HN := Lib.hid (hH.out.next hN hk)
                      clear hr hN hk hx hH
                      refine hKn.out _ _ ?_ (fun hH => ?_)
                      · (exact HN)
                      clear hKn Kn
                      try simp only [Act.put, List.setIfInBounds_toArray, List.set_cons_zero, List.set_cons_succ]
                      clear HN
                      refine wpAnyU_ready (rs := [2]) (by kernel_rfl) (by simp) ?_
                      refine AllReadyU.cons rfl (fun Kn hKn => ?_) AllReadyU.nil
                      go_simp
                      refine hKn.out _ _ ?_ (fun hH => ?_)
                      · (first | exact Lib.hid (hH.out.quiet ((Keep.refl _ _).alloc' _)) | exact Lib.hid (hH.out.quiet (keep_alloc_drew _ _)) | exact Lib.hid (hH.out.quiet (Keep.trans ((Keep.refl _ _).alloc' _) (keep_draw _ _))))
                      clear hKn Kn
                      try simp only [Act.put, List.setIfInBounds_toArray, List.set_cons_zero, List.set_cons_succ]
                      refine wpAnyU_ready (rs := [5]) (by kernel_rfl) (by simp) ?_
                      refine AllReadyU.cons rfl (fun Kn hKn => ?_) AllReadyU.nil
                      go_simp
                      refine hKn.out _ _ ?_ (fun hH => ?_)
                      · (exact hH)
                      clear hKn Kn
                      try simp only [Act.put, List.setIfInBounds_toArray, List.set_cons_zero, List.set_cons_succ]
                      refine wpAnyU_ready (rs := [6]) (by kernel_rfl) (by simp) ?_
                      refine AllReadyU.cons rfl (fun Kn hKn => ?_) AllReadyU.nil
                      go_simp
                      refine hKn.out _ _ ?_ (fun hH => ?_)
                      · (exact hH)
                      clear hKn Kn
                      try simp only [Act.put, List.setIfInBounds_toArray, List.set_cons_zero, List.set_cons_succ]
                      refine wpAnyU_ready (rs := [7]) (by kernel_rfl) (by simp) ?_
                      refine AllReadyU.cons rfl (fun Kn hKn => ?_) AllReadyU.nil
                      go_simp
                      refine hKn.out _ _ ?_ (fun hH => ?_)
                      · (first | exact Lib.hid (hH.out.quiet ((Keep.refl _ _).alloc' _)) | exact Lib.hid (hH.out.quiet (keep_alloc_drew _ _)) | exact Lib.hid (hH.out.quiet (Keep.trans ((Keep.refl _ _).alloc' _) (keep_draw _ _))))
                      clear hKn Kn
                      try simp only [Act.put, List.setIfInBounds_toArray, List.set_cons_zero, List.set_cons_succ]
                      refine wpAnyU_ready (rs := [8]) (by kernel_rfl) (by simp) ?_
                      refine AllReadyU.last rfl (by rfl) (fun Kn hKn => ?_) AllReadyU.nil
                      refine step_append_lies _ rfl (.tmp 76) (.tmp 82) 22 rfl w.heap.size 3 j0 _ 1 8 Try.underlying22 GI.out GZ0.out GZ1.out GZ2.out rfl (by decide) (.slice A4 k3 c4) k3 (ints y4) rfl (hH.out.mw.rows.own ⟨A4, k3, c4, y4⟩ (by simp)) ⟨_, 0, none⟩ 1 1 [.int .i64 xb] rfl rfl (by first | exact World.news_of_block (heap_alloc_new _ _) | exact World.news_of_block (heap_alloc_new2 _ _ _)) (by simp [Value.oneCell']) (by omega) (by unfold maxLen; omega) (by omega) (by have := hH.out.mw.since.size; simpa using this) _ rfl ?_
                      intro gb capb w1b hown hgrow hat hlt
                      have VYb := Lib.hid (hH.out.growi 3 ⟨A4, k3, c4, y4⟩ rfl (xs := y4 ++ [xb]) hgrow (by rw [ints_snoc]; exact hown) (own_or hat))
                      have f4 := VYb.out.f 4
                      have d4 : w1b.cell? ⟨C, 4, none⟩ = some (.slice A4 k3 c4) := VYb.out.c 4
                      have HQb := Lib.hid (mem_snoc (x := xb) HP4.out HXb.out)
                      clear hown hgrow hat hlt HXb hH
                      refine hKn.out _ _ ?_
                      clear hKn Kn
                      try simp only [Act.put, List.setIfInBounds_toArray, List.set_cons_zero, List.set_cons_succ]
                      refine wpAnyU_pure (i := 9) (v := ?_) rfl (by kernel_rfl) (by kernel_rfl) (by kernel_rfl) (by rfl) (fun _ _ _ h => h) (Or.inl ⟨by rfl, ?_⟩) ?_
                      rotate_left
                      · (intro w'' _; go_simp; try with_reducible rfl)
                      change wpAnyU _ _ _ _ _ _ _ _ (Act.put _ (some 84) _) _
                      try simp only [Act.put, List.setIfInBounds_toArray, List.set_cons_zero, List.set_cons_succ]
                      refine wpAnyU_ready (rs := [10]) (by kernel_rfl) (by simp) ?_
                      refine AllReadyU.last rfl (by rfl) (fun Kn hKn => ?_) AllReadyU.nil
                      go_simp
                      refine hKn.out _ _ ?_
                      clear hKn Kn
                      try simp only [Act.put, List.setIfInBounds_toArray, List.set_cons_zero, List.set_cons_succ]
                      refine wpAnyU_done (by kernel_rfl) ?_ _
                      go_wp2_with fail
                      exact ⟨⟨k3 + 1, by omega, by go_num, _, _, _, _, _, _, Lib.hid (VYb.out.set 4 _), HQa, HQb⟩, by simp [intOf]; omega⟩
                    exact AllReadyU.nil
                  refine AllReadyU.cons rfl (fun Kn hKn => ?_) ?_
                  · skip
                    go_simp
                    go_at_call 35
                    refine (next1_any hH.out.nv 5 (by omega)).mono ?_
                    rintro e wva ⟨r, rfl, hr, hN, hk⟩
                    obtain ⟨q, rfl⟩ := Int.eq_ofNat_of_zero_le hr.1
                    have hqa : q < 5 := by omega
                    have hqai : (q : Int) < 5 := by omega
                    obtain ⟨xa, hx⟩ : ∃ x, ([400, 400, 60, 12, 1000000000000000] : List Int).getD q 0 = x := ⟨_, rfl⟩
                    have HXa := Lib.hid (hx ▸ tab_in (P := fun x => 0 ≤ x ∧ x ≤ 1000000000000000) (tab := [400, 400, 60, 12, 1000000000000000]) (by simp) hqa)
                    (first | (have ct : wva.cell? ⟨wo.heap.size, q, none⟩ = some (.int .i64 xa) := hx ▸ cell_kept hk (tab_cell wo [400, 400, 60, 12, 1000000000000000] q hqa) hpla) | skip)
                    have ct' : (wva.alloc (.cells #[.int .i64 400, .int .i64 400, .int .i64 60, .int .i64 12, .int .i64 1000000000000000] 3)).cell? ⟨wva.heap.size, q, none⟩ = some (.int .i64 xa) := hx ▸ tab_cell wva [400, 400, 60, 12, 1000000000000000] q hqa
                    have HN := Lib.hid (hH.out.next hN hk)
                    clear hr hN hk hx hH
                    refine hKn.out _ _ ?_ (fun hH => ?_)
                    · (exact HN)
                    clear hKn Kn
                    try simp only [Act.put, List.setIfInBounds_toArray, List.set_cons_zero, List.set_cons_succ]
                    clear HN
                    refine wpAnyU_ready (rs := [2]) (by kernel_rfl) (by simp) ?_
                    refine AllReadyU.cons rfl (fun Kn hKn => ?_) AllReadyU.nil
                    go_simp
                    refine hKn.out _ _ ?_ (fun hH => ?_)
                    · (first | exact Lib.hid (hH.out.quiet ((Keep.refl _ _).alloc' _)) | exact Lib.hid (hH.out.quiet (keep_alloc_drew _ _)) | exact Lib.hid (hH.out.quiet (Keep.trans ((Keep.refl _ _).alloc' _) (keep_draw _ _))))
                    clear hKn Kn
                    try simp only [Act.put, List.setIfInBounds_toArray, List.set_cons_zero, List.set_cons_succ]
                    refine wpAnyU_ready (rs := [5]) (by kernel_rfl) (by simp) ?_
                    refine AllReadyU.cons rfl (fun Kn hKn => ?_) AllReadyU.nil
                    go_simp
                    refine hKn.out _ _ ?_ (fun hH => ?_)
                    · (exact hH)
                    clear hKn Kn
                    try simp only [Act.put, List.setIfInBounds_toArray, List.set_cons_zero, List.set_cons_succ]
                    refine wpAnyU_ready (rs := [6]) (by kernel_rfl) (by simp) ?_
                    refine AllReadyU.cons rfl (fun Kn hKn => ?_) AllReadyU.nil
                    go_simp
                    refine hKn.out _ _ ?_ (fun hH => ?_)
                    · (exact hH)
                    clear hKn Kn
                    try simp only [Act.put, List.setIfInBounds_toArray, List.set_cons_zero, List.set_cons_succ]
                    refine wpAnyU_ready (rs := [7]) (by kernel_rfl) (by simp) ?_
                    refine AllReadyU.cons rfl (fun Kn hKn => ?_) AllReadyU.nil
                    go_simp
                    refine hKn.out _ _ ?_ (fun hH => ?_)
                    · (first | exact Lib.hid (hH.out.quiet ((Keep.refl _ _).alloc' _)) | exact Lib.hid (hH.out.quiet (keep_alloc_drew _ _)) | exact Lib.hid (hH.out.quiet (Keep.trans ((Keep.refl _ _).alloc' _) (keep_draw _ _))))
                    clear hKn Kn
                    try simp only [Act.put, List.setIfInBounds_toArray, List.set_cons_zero, List.set_cons_succ]
                    refine wpAnyU_ready (rs := [8]) (by kernel_rfl) (by simp) ?_
                    refine AllReadyU.last rfl (by rfl) (fun Kn hKn => ?_) AllReadyU.nil
                    refine step_append_lies _ rfl (.tmp 66) (.tmp 72) 22 rfl w.heap.size 3 j0 _ 1 8 Try.underlying22 GI.out GZ0.out GZ1.out GZ2.out rfl (by decide) (.slice A3 k3 c3) k3 (ints y3) rfl (hH.out.mw.rows.own ⟨A3, k3, c3, y3⟩ (by simp)) ⟨_, 0, none⟩ 1 1 [.int .i64 xa] rfl rfl (by first | exact World.news_of_block (heap_alloc_new _ _) | exact World.news_of_block (heap_alloc_new2 _ _ _)) (by simp [Value.oneCell']) (by omega) (by unfold maxLen; omega) (by omega) (by have := hH.out.mw.since.size; simpa using this) _ rfl ?_
                    intro ga capa w1a hown hgrow hat hlt
                    have VYa := Lib.hid (hH.out.growi 2 ⟨A3, k3, c3, y3⟩ rfl (xs := y3 ++ [xa]) hgrow (by rw [ints_snoc]; exact hown) (own_or hat))
                    have f3 := VYa.out.f 3
                    have d3 : w1a.cell? ⟨C, 3, none⟩ = some (.slice A3 k3 c3) := VYa.out.c 3
                    have HQa := Lib.hid (mem_snoc (x := xa) HP3.out HXa.out)
                    clear hown hgrow hat hlt HXa hH
                    refine hKn.out _ _ ?_
                    clear hKn Kn
                    try simp only [Act.put, List.setIfInBounds_toArray, List.set_cons_zero, List.set_cons_succ]
                    refine wpAnyU_pure (i := 9) (v := ?_) rfl (by kernel_rfl) (by kernel_rfl) (by kernel_rfl) (by rfl) (fun _ _ _ h => h) (Or.inl ⟨by rfl, ?_⟩) ?_
                    rotate_left
                    · (intro w'' _; go_simp; try with_reducible rfl)
                    change wpAnyU _ _ _ _ _ _ _ _ (Act.put _ (some 74) _) _
                    try simp only [Act.put, List.setIfInBounds_toArray, List.set_cons_zero, List.set_cons_succ]
                    refine wpAnyU_ready (rs := [10]) (by kernel_rfl) (by simp) ?_
                    refine AllReadyU.last rfl (by rfl) (fun Kn hKn => ?_) AllReadyU.nil
                    go_simp
                    refine hKn.out _ _ ?_
                    clear hKn Kn
                    try simp only [Act.put, List.setIfInBounds_toArray, List.set_cons_zero, List.set_cons_succ]
                    refine wpAnyU_done (by kernel_rfl) ?_ _
                    have VSb : Hid (WN w p C B [.slice A0 k0 c0, .slice A1 k1 c1, .slice A2 k2 c2, .slice (some ⟨ga, 0, none⟩) (k3 + 1) capa, .slice A4 k3 c4, .int .i64 0] A0 k0 c0 l0 [⟨A1, k1, c1, y1⟩, ⟨A2, k2, c2, y2⟩, ⟨some ⟨ga, 0, none⟩, k3 + 1, capa, y3 ++ [xa]⟩, ⟨A4, k3, c4, y4⟩] (w1a.setCell ⟨C, 3, none⟩ (.slice (some ⟨ga, 0, none⟩) (k3 + 1) capa))) := Lib.hid (VYa.out.set 3 _)
                    go_wp2_with fail
                    obtain ⟨wz, hwz⟩ : ∃ wz, w1a.setCell ⟨C, 3, none⟩ (.slice (some ⟨ga, 0, none⟩) (k3 + 1) capa) = wz := ⟨_, rfl⟩
                    rw [hwz] at VSb
                    rw [hwz]
                    clear hwz f3 d3 VYa hpla
                    (try clear ct)
                    clear ct'
                    have hplb : ¬ (wz.heap.size = p) := by have := VSb.out.nv.lt; omega
                    refine wp_region_drewU (S := (fun w' => Hid (WN w p C B [.slice A0 k0 c0, .slice A1 k1 c1, .slice A2 k2 c2, .slice (some ⟨ga, 0, none⟩) (k3 + 1) capa, .slice A4 k3 c4, .int .i64 0] A0 k0 c0 l0 [⟨A1, k1, c1, y1⟩, ⟨A2, k2, c2, y2⟩, ⟨some ⟨ga, 0, none⟩, k3 + 1, capa, y3 ++ [xa]⟩, ⟨A4, k3, c4, y4⟩] w'))) (D := [0, 3, 8, 9, 10]) (by kernel_rfl) (by exact Lib.hid (VSb.out.quiet (keep_draw _ wz))) (fun hH => ?_)
                    refine wpAnyU_pure (i := 0) (v := ?_) rfl (by kernel_rfl) (by kernel_rfl) (by kernel_rfl) (by rfl) (fun _ _ _ h => h) (Or.inl ⟨by rfl, ?_⟩) ?_
                    rotate_left
                    · (intro w'' _; go_simp; try with_reducible rfl)
                    change wpAnyU _ _ _ _ _ _ _ _ (Act.put _ (some 75) _) _
                    try simp only [Act.put, List.setIfInBounds_toArray, List.set_cons_zero, List.set_cons_succ]
                    refine wpAnyU_pure (i := 3) (v := ?_) rfl (by kernel_rfl) (by kernel_rfl) (by kernel_rfl) (by rfl) (fun _ _ _ h => h) (Or.inl ⟨by rfl, ?_⟩) ?_
                    rotate_left
                    · (intro w'' _; go_simp; try with_reducible rfl)
                    change wpAnyU _ _ _ _ _ _ _ _ (Act.put _ (some 78) _) _
                    try simp only [Act.put, List.setIfInBounds_toArray, List.set_cons_zero, List.set_cons_succ]
                    refine wpAnyU_take (i := 1) (v := ?_) rfl (by kernel_rfl) (by kernel_rfl) (by kernel_rfl) (by kernel_rfl) (fun _ _ _ h => h) (Or.inl ⟨by rfl, ?_⟩) hH ?_
                    rotate_left
                    · (intro w'' hSw; have hc : w''.cell? ⟨C, 4, none⟩ = some (.slice A4 k3 c4) := hSw.out.c 4; go_simp; try with_reducible rfl)
                    change wpAnyU _ _ _ _ _ _ _ _ (Act.put _ (some 76) _) _
                    try simp only [Act.put, List.setIfInBounds_toArray, List.set_cons_zero, List.set_cons_succ]
                    refine wpAnyU_ready (rs := [2, 4]) (by kernel_rfl) (by simp) ?_
                    refine AllReadyU.cons rfl (fun Kn hKn => ?_) ?_
                    · skip
                      go_simp
                      refine hKn.out _ _ ?_ (fun hH => ?_)
                      · (first | exact Lib.hid (hH.out.quiet ((Keep.refl _ _).alloc' _)) | exact Lib.hid (hH.out.quiet (keep_alloc_drew _ _)) | exact Lib.hid (hH.out.quiet (Keep.trans ((Keep.refl _ _).alloc' _) (keep_draw _ _))))
                      clear hKn Kn
                      try simp only [Act.put, List.setIfInBounds_toArray, List.set_cons_zero, List.set_cons_succ]
                      refine wpAnyU_ready (rs := [4]) (by kernel_rfl) (by simp) ?_
                      refine AllReadyU.cons rfl (fun Kn hKn => ?_) AllReadyU.nil
                      go_simp
                      go_at_call 35
                      refine (next1_any hH.out.nv 5 (by omega)).mono ?_
                      rintro e wvb ⟨r, rfl, hr, hN, hk⟩
                      obtain ⟨q, rfl⟩ := Int.eq_ofNat_of_zero_le hr.1
                      have hqb : q < 5 := by omega
                      have hqbi : (q : Int) < 5 := by omega
                      obtain ⟨xb, hx⟩ : ∃ x, ([2000, 2000, 200, 72, 30000] : List Int).getD q 0 = x := ⟨_, rfl⟩
                      have HXb := Lib.hid (hx ▸ tab_in (P := fun x => 0 ≤ x ∧ x ≤ 30000) (tab := [2000, 2000, 200, 72, 30000]) (by simp) hqb)
                      (first | (have ct : wvb.cell? ⟨wz.heap.size, q, none⟩ = some (.int .i64 xb) := hx ▸ cell_kept hk (tab_cell wz [2000, 2000, 200, 72, 30000] q hqb) hplb) | skip)
                      have ct' : (wvb.alloc (.cells #[.int .i64 2000, .int .i64 2000, .int .i64 200, .int .i64 72, .int .i64 30000] 3)).cell? ⟨wvb.heap.size, q, none⟩ = some (.int .i64 xb) := hx ▸ tab_cell wvb [2000, 2000, 200, 72, 30000] q hqb
                      have HN := Lib.hid (hH.out.next hN hk)
                      clear hr hN hk hx hH
                      refine hKn.out _ _ ?_ (fun hH => ?_)
                      · (exact HN)
                      clear hKn Kn
                      try simp only [Act.put, List.setIfInBounds_toArray, List.set_cons_zero, List.set_cons_succ]
                      clear HN
                      refine wpAnyU_ready (rs := [5]) (by kernel_rfl) (by simp) ?_
                      refine AllReadyU.cons rfl (fun Kn hKn => ?_) AllReadyU.nil
                      go_simp
                      refine hKn.out _ _ ?_ (fun hH => ?_)
                      · (exact hH)
                      clear hKn Kn
                      try simp only [Act.put, List.setIfInBounds_toArray, List.set_cons_zero, List.set_cons_succ]
                      refine wpAnyU_ready (rs := [6]) (by kernel_rfl) (by simp) ?_
                      refine AllReadyU.cons rfl (fun Kn hKn => ?_) AllReadyU.nil
                      go_simp
                      refine hKn.out _ _ ?_ (fun hH => ?_)
                      · (exact hH)
                      clear hKn Kn
                      try simp only [Act.put, List.setIfInBounds_toArray, List.set_cons_zero, List.set_cons_succ]
                      refine wpAnyU_ready (rs := [7]) (by kernel_rfl) (by simp) ?_
                      refine AllReadyU.cons rfl (fun Kn hKn => ?_) AllReadyU.nil
                      go_simp
                      refine hKn.out _ _ ?_ (fun hH => ?_)
                      · (first | exact Lib.hid (hH.out.quiet ((Keep.refl _ _).alloc' _)) | exact Lib.hid (hH.out.quiet (keep_alloc_drew _ _)) | exact Lib.hid (hH.out.quiet (Keep.trans ((Keep.refl _ _).alloc' _) (keep_draw _ _))))
                      clear hKn Kn
                      try simp only [Act.put, List.setIfInBounds_toArray, List.set_cons_zero, List.set_cons_succ]
                      refine wpAnyU_ready (rs := [8]) (by kernel_rfl) (by simp) ?_
                      refine AllReadyU.last rfl (by rfl) (fun Kn hKn => ?_) AllReadyU.nil
                      refine step_append_lies _ rfl (.tmp 76) (.tmp 82) 22 rfl w.heap.size 3 j0 _ 1 8 Try.underlying22 GI.out GZ0.out GZ1.out GZ2.out rfl (by decide) (.slice A4 k3 c4) k3 (ints y4) rfl (hH.out.mw.rows.own ⟨A4, k3, c4, y4⟩ (by simp)) ⟨_, 0, none⟩ 1 1 [.int .i64 xb] rfl rfl (by first | exact World.news_of_block (heap_alloc_new _ _) | exact World.news_of_block (heap_alloc_new2 _ _ _)) (by simp [Value.oneCell']) (by omega) (by unfold maxLen; omega) (by omega) (by have := hH.out.mw.since.size; simpa using this) _ rfl ?_
                      intro gb capb w1b hown hgrow hat hlt
                      have VYb := Lib.hid (hH.out.growi 3 ⟨A4, k3, c4, y4⟩ rfl (xs := y4 ++ [xb]) hgrow (by rw [ints_snoc]; exact hown) (own_or hat))
                      have f4 := VYb.out.f 4
                      have d4 : w1b.cell? ⟨C, 4, none⟩ = some (.slice A4 k3 c4) := VYb.out.c 4
                      have HQb := Lib.hid (mem_snoc (x := xb) HP4.out HXb.out)
                      clear hown hgrow hat hlt HXb hH
                      refine hKn.out _ _ ?_
                      clear hKn Kn
                      try simp only [Act.put, List.setIfInBounds_toArray, List.set_cons_zero, List.set_cons_succ]
                      refine wpAnyU_pure (i := 9) (v := ?_) rfl (by kernel_rfl) (by kernel_rfl) (by kernel_rfl) (by rfl) (fun _ _ _ h => h) (Or.inl ⟨by rfl, ?_⟩) ?_
                      rotate_left
                      · (intro w'' _; go_simp; try with_reducible rfl)
                      change wpAnyU _ _ _ _ _ _ _ _ (Act.put _ (some 84) _) _
                      try simp only [Act.put, List.setIfInBounds_toArray, List.set_cons_zero, List.set_cons_succ]
                      refine wpAnyU_ready (rs := [10]) (by kernel_rfl) (by simp) ?_
                      refine AllReadyU.last rfl (by rfl) (fun Kn hKn => ?_) AllReadyU.nil
                      go_simp
                      refine hKn.out _ _ ?_
                      clear hKn Kn
                      try simp only [Act.put, List.setIfInBounds_toArray, List.set_cons_zero, List.set_cons_succ]
                      refine wpAnyU_done (by kernel_rfl) ?_ _
                      go_wp2_with fail
                      exact ⟨⟨k3 + 1, by omega, by go_num, _, _, _, _, _, _, Lib.hid (VYb.out.set 4 _), HQa, HQb⟩, by simp [intOf]; omega⟩
                    refine AllReadyU.cons rfl (fun Kn hKn => ?_) ?_
                    · skip
                      go_simp
                      go_at_call 35
                      refine (next1_any hH.out.nv 5 (by omega)).mono ?_
                      rintro e wvb ⟨r, rfl, hr, hN, hk⟩
                      obtain ⟨q, rfl⟩ := Int.eq_ofNat_of_zero_le hr.1
                      have hqb : q < 5 := by omega
                      have hqbi : (q : Int) < 5 := by omega
                      obtain ⟨xb, hx⟩ : ∃ x, ([2000, 2000, 200, 72, 30000] : List Int).getD q 0 = x := ⟨_, rfl⟩
                      have HXb := Lib.hid (hx ▸ tab_in (P := fun x => 0 ≤ x ∧ x ≤ 30000) (tab := [2000, 2000, 200, 72, 30000]) (by simp) hqb)
                      (first | (have ct : wvb.cell? ⟨wz.heap.size, q, none⟩ = some (.int .i64 xb) := hx ▸ cell_kept hk (tab_cell wz [2000, 2000, 200, 72, 30000] q hqb) hplb) | skip)
                      have ct' : (wvb.alloc (.cells #[.int .i64 2000, .int .i64 2000, .int .i64 200, .int .i64 72, .int .i64 30000] 3)).cell? ⟨wvb.heap.size, q, none⟩ = some (.int .i64 xb) := hx ▸ tab_cell wvb [2000, 2000, 200, 72, 30000] q hqb
                      have HN := Lib.hid (hH.out.next hN hk)
                      clear hr hN hk hx hH
                      refine hKn.out _ _ ?_ (fun hH => ?_)
                      · (exact HN)
                      clear hKn Kn
                      try simp only [Act.put, List.setIfInBounds_toArray, List.set_cons_zero, List.set_cons_succ]
                      clear HN
                      refine wpAnyU_ready (rs := [2]) (by kernel_rfl) (by simp) ?_
                      refine AllReadyU.cons rfl (fun Kn hKn => ?_) AllReadyU.nil
                      go_simp
                      refine hKn.out _ _ ?_ (fun hH => ?_)
                      · (first | exact Lib.hid (hH.out.quiet ((Keep.refl _ _).alloc' _)) | exact Lib.hid (hH.out.quiet (keep_alloc_drew _ _)) | exact Lib.hid (hH.out.quiet (Keep.trans ((Keep.refl _ _).alloc' _) (keep_draw _ _))))
                      clear hKn Kn
                      try simp only [Act.put, List.setIfInBounds_toArray, List.set_cons_zero, List.set_cons_succ]
                      refine wpAnyU_ready (rs := [5]) (by kernel_rfl) (by simp) ?_
                      refine AllReadyU.cons rfl (fun Kn hKn => ?_) AllReadyU.nil
                      go_simp
                      refine hKn.out _ _ ?_ (fun hH => ?_)
                      · (exact hH)
                      clear hKn Kn
                      try simp only [Act.put, List.setIfInBounds_toArray, List.set_cons_zero, List.set_cons_succ]
                      refine wpAnyU_ready (rs := [6]) (by kernel_rfl) (by simp) ?_
                      refine AllReadyU.cons rfl (fun Kn hKn => ?_) AllReadyU.nil
                      go_simp
                      refine hKn.out _ _ ?_ (fun hH => ?_)
                      · (exact hH)
                      clear hKn Kn
                      try simp only [Act.put, List.setIfInBounds_toArray, List.set_cons_zero, List.set_cons_succ]
                      refine wpAnyU_ready (rs := [7]) (by kernel_rfl) (by simp) ?_
                      refine AllReadyU.cons rfl (fun Kn hKn => ?_) AllReadyU.nil
                      go_simp
                      refine hKn.out _ _ ?_ (fun hH => ?_)
                      · (first | exact Lib.hid (hH.out.quiet ((Keep.refl _ _).alloc' _)) | exact Lib.hid (hH.out.quiet (keep_alloc_drew _ _)) | exact Lib.hid (hH.out.quiet (Keep.trans ((Keep.refl _ _).alloc' _) (keep_draw _ _))))
                      clear hKn Kn
                      try simp only [Act.put, List.setIfInBounds_toArray, List.set_cons_zero, List.set_cons_succ]
                      refine wpAnyU_ready (rs := [8]) (by kernel_rfl) (by simp) ?_
                      refine AllReadyU.last rfl (by rfl) (fun Kn hKn => ?_) AllReadyU.nil
                      refine step_append_lies _ rfl (.tmp 76) (.tmp 82) 22 rfl w.heap.size 3 j0 _ 1 8 Try.underlying22 GI.out GZ0.out GZ1.out GZ2.out rfl (by decide) (.slice A4 k3 c4) k3 (ints y4) rfl (hH.out.mw.rows.own ⟨A4, k3, c4, y4⟩ (by simp)) ⟨_, 0, none⟩ 1 1 [.int .i64 xb] rfl rfl (by first | exact World.news_of_block (heap_alloc_new _ _) | exact World.news_of_block (heap_alloc_new2 _ _ _)) (by simp [Value.oneCell']) (by omega) (by unfold maxLen; omega) (by omega) (by have := hH.out.mw.since.size; simpa using this) _ rfl ?_
                      intro gb capb w1b hown hgrow hat hlt
                      have VYb := Lib.hid (hH.out.growi 3 ⟨A4, k3, c4, y4⟩ rfl (xs := y4 ++ [xb]) hgrow (by rw [ints_snoc]; exact hown) (own_or hat))
                      have f4 := VYb.out.f 4
                      have d4 : w1b.cell? ⟨C, 4, none⟩ = some (.slice A4 k3 c4) := VYb.out.c 4
                      have HQb := Lib.hid (mem_snoc (x := xb) HP4.out HXb.out)
                      clear hown hgrow hat hlt HXb hH
                      refine hKn.out _ _ ?_
                      clear hKn Kn
                      try simp only [Act.put, List.setIfInBounds_toArray, List.set_cons_zero, List.set_cons_succ]
                      refine wpAnyU_pure (i := 9) (v := ?_) rfl (by kernel_rfl) (by kernel_rfl) (by kernel_rfl) (by rfl) (fun _ _ _ h => h) (Or.inl ⟨by rfl, ?_⟩) ?_
                      rotate_left
                      · (intro w'' _; go_simp; try with_reducible rfl)
                      change wpAnyU _ _ _ _ _ _ _ _ (Act.put _ (some 84) _) _
                      try simp only [Act.put, List.setIfInBounds_toArray, List.set_cons_zero, List.set_cons_succ]
                      refine wpAnyU_ready (rs := [10]) (by kernel_rfl) (by simp) ?_
                      refine AllReadyU.last rfl (by rfl) (fun Kn hKn => ?_) AllReadyU.nil
                      go_simp
                      refine hKn.out _ _ ?_
                      clear hKn Kn
                      try simp only [Act.put, List.setIfInBounds_toArray, List.set_cons_zero, List.set_cons_succ]
                      refine wpAnyU_done (by kernel_rfl) ?_ _
                      go_wp2_with fail
                      exact ⟨⟨k3 + 1, by omega, by go_num, _, _, _, _, _, _, Lib.hid (VYb.out.set 4 _), HQa, HQb⟩, by simp [intOf]; omega⟩
                    exact AllReadyU.nil
                  exact AllReadyU.nil
                · have hb : decide (k3 < N3) = false := by simpa using hlt
                  obtain rfl : k3 = N3 := by omega
                  go_wp2_with fail
                  ((with_reducible refine (next1_any (VV3.out.quiet ((Keep.refl _ wo).alloc' _)).nv 5 (by omega)).mono ?_); rintro e w5 ⟨r, rfl, hr, hN, hk1⟩)
                  obtain ⟨q, rfl⟩ := Int.eq_ofNat_of_zero_le hr.1
                  have hq : q < 5 := by omega
                  obtain ⟨x, hx⟩ : ∃ x, ([0, 7, 20, 1, 3] : List Int).getD q 0 = x := ⟨_, rfl⟩
                  have HX := Lib.hid (hx ▸ tab_in (P := fun x => 0 ≤ x ∧ x ≤ 1000000000) (tab := [0, 7, 20, 1, 3]) (by simp) hq)
                  have ct : w5.cell? ⟨wo.heap.size, q, none⟩ = some (.int .i64 x) := hx ▸ cell_kept hk1 (tab_cell wo [0, 7, 20, 1, 3] q hq) (by have := VV3.out.nv.lt; show ¬ wo.heap.size = p; omega)
                  have V5 := Lib.hid ((VV3.out.quiet ((Keep.refl _ wo).alloc' _)).next hN hk1)
                  have f5 := V5.out.f 5
                  have d5 : w5.cell? ⟨C, 5, none⟩ = some (.int .i64 0) := V5.out.c 5
                  clear hx hN hk1 hr VV3
                  go_upto_region 25 with (fail)
                  have VE : Hid (WN w p C B [.slice A0 k0 c0, .slice A1 k1 c1, .slice A2 k2 c2, .slice A3 k3 c3, .slice A4 k3 c4, .int .i64 x] A0 k0 c0 l0 [⟨A1, k1, c1, y1⟩, ⟨A2, k2, c2, y2⟩, ⟨A3, k3, c3, y3⟩, ⟨A4, k3, c4, y4⟩] (w5.setCell ⟨C, 5, none⟩ (.int .i64 x))) := Lib.hid (V5.out.set 5 _)
                  obtain ⟨we, hwe⟩ : ∃ we, w5.setCell ⟨C, 5, none⟩ (.int .i64 x) = we := ⟨_, rfl⟩
                  rw [hwe] at VE
                  rw [hwe]
                  clear hwe f5 d5 ct V5
                  have e0 : we.cell? ⟨C, 0, none⟩ = some (.slice A0 k0 c0) := VE.out.c 0
                  have e1 : we.cell? ⟨C, 1, none⟩ = some (.slice A1 k1 c1) := VE.out.c 1
                  have e2 : we.cell? ⟨C, 2, none⟩ = some (.slice A2 k2 c2) := VE.out.c 2
                  have e3 : we.cell? ⟨C, 3, none⟩ = some (.slice A3 k3 c3) := VE.out.c 3
                  have e4 : we.cell? ⟨C, 4, none⟩ = some (.slice A4 k3 c4) := VE.out.c 4
                  have e5 : we.cell? ⟨C, 5, none⟩ = some (.int .i64 x) := VE.out.c 5
                  have b0 : we.cell? ⟨B, 0, none⟩ = some (.slice none 0 0) := by rw [blk_cell VE.out.mw.res]; rfl
                  have b1 : we.cell? ⟨B, 1, none⟩ = some (.slice none 0 0) := by rw [blk_cell VE.out.mw.res]; rfl
                  have b2 : we.cell? ⟨B, 2, none⟩ = some (.slice none 0 0) := by rw [blk_cell VE.out.mw.res]; rfl
                  have b3 : we.cell? ⟨B, 3, none⟩ = some (.slice none 0 0) := by rw [blk_cell VE.out.mw.res]; rfl
                  have b4 : we.cell? ⟨B, 4, none⟩ = some (.slice none 0 0) := by rw [blk_cell VE.out.mw.res]; rfl
                  have b5 : we.cell? ⟨B, 5, none⟩ = some (.int .i64 0) := by rw [blk_cell VE.out.mw.res]; rfl
                  have g0 := blk_free VE.out.mw.res 0
                  have g1 := blk_free VE.out.mw.res 1
                  have g2 := blk_free VE.out.mw.res 2
                  have g3 := blk_free VE.out.mw.res 3
                  have g4 := blk_free VE.out.mw.res 4
                  have g5 := blk_free VE.out.mw.res 5
                  go_wp2_with fail
                  have o0 := VE.out.mw.ins.1
                  rw [valc_length] at o0
                  have o1 := ints_len (VE.out.mw.rows.own ⟨A1, k1, c1, y1⟩ (by simp))
                  have o2 := ints_len (VE.out.mw.rows.own ⟨A2, k2, c2, y2⟩ (by simp))
                  have o3 := ints_len (VE.out.mw.rows.own ⟨A3, k3, c3, y3⟩ (by simp))
                  have o4 := ints_len (VE.out.mw.rows.own ⟨A4, k3, c4, y4⟩ (by simp))
                  simp only at o1 o2 o3 o4
                  have hR : (⟨l0, y1, y2, y3, y4, x⟩ : WD).right = true := right_of (fun v hv => (HP0.out v hv).1) (by simp only; omega) (fun x hx => by have := HP1.out x hx; omega) (by simp only; omega) (fun x hx => by have := HP2.out x hx; omega) (by simp only; omega)
                      HP3.out (by simp only; omega) HP4.out (by simp only; omega) HX.out (by simp only; omega)
                  exact world_ret (P := fun d => d.right = true ∧ 0 < d.fuel.length) VE.out.mw LB.out ⟨hR, by simp only; omega⟩ (fun v hv => (HP0.out v hv).2) (by omega) _ (by rfl)
end Go.Proofs.Ytbbeoeoengogpaa
