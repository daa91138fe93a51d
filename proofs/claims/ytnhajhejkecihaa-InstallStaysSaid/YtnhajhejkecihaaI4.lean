/- Install: slices.IndexFunc, slices.DeleteFunc over the entries of a store. -/
import Derived.Test.YtnhajhejkecihaaI3
namespace Go.Proofs.Ytnhajhejkecihaa
open Go.RowKit Go.Lib
set_option linter.unusedVariables false
set_option linter.unusedSimpArgs false

def goneAt (s : MS) (j : Nat) : Bool := (s.all.getD j ME.dflt).gone
def predF : Value := .func (.func 26) #[] #[]
set_option maxRecDepth 100000 in
set_option maxHeartbeats 4000000 in
theorem indexE_any {n : Nat} {w : World} {p : Nat} {r : SR} {s : MS} (h : IsStore n w p r s) :
    Calls Try.prog 33 #[.slice r.A s.all.length r.ac, predF] w fun e w' => w = w' ∧ ∃ v : Int, e = .returned (.int .i64 v) ∧ ((v = -1 ∧ ∀ j, j < s.all.length → goneAt s j = false) ∨ ∃ k : Nat, v = k ∧ k < s.all.length ∧ goneAt s k = true ∧ ∀ j, j < k → goneAt s j = false) := by
  have H := Lib.hid h
  have hN := h.inv.few
  clear h
  obtain ⟨N, hNN⟩ : ∃ N, s.all.length = N := ⟨_, rfl⟩
  have HN := Lib.hid hNN
  rw [hNN] at hN
  rw [hNN]
  clear hNN
  unfold predF
  go_enter Try.func33, Try.ntmps33
  go_wp2_with fail
  go_loop [8] (fun i => ∃ k : Nat, k ≤ N ∧ i = .int .i64 (k : Int) ∧ Hid (∀ j, j < k → goneAt s j = false)) (fun i => N + 1 - (intOf i).toNat)
  case atStart => exact ⟨0, Nat.zero_le _, rfl, Lib.hid (fun j hj => absurd hj (by omega))⟩
  case round =>
    obtain ⟨k, hk, rfl, HH⟩ := hrel
    by_cases hlt : k < N
    · have hb : decide (k < N) = true := by simpa using hlt
      have hkN : k < s.all.length := by rw [HN.out]; exact hlt
      obtain ⟨g, hg, hp⟩ := H.out.ptr hkN
      obtain ⟨hc, hf⟩ := H.out.ents k hkN
      have HP := Lib.hid (pred_any hc hf)
      obtain ⟨eb, heb⟩ : ∃ eb, r.es.getD k 0 = eb := ⟨_, rfl⟩
      have hgo : goneAt s k = (s.all.getD k ME.dflt).gone := rfl
      rw [← hgo] at HP
      rw [heb] at hp HP
      rw [hg]
      obtain ⟨d, hd⟩ : ∃ d, goneAt s k = d := ⟨_, rfl⟩
      rw [hd] at HP
      have HD := Lib.hid hd
      clear hc hf heb hgo hd hg
      cases d with
      | true =>
        go_wp2_with fail
        ((with_reducible refine HP.out.mono ?_); rintro e w' ⟨rfl, rfl⟩)
        go_wp2_with fail
        go_ret
        exact ⟨rfl, _, rfl, .inr ⟨k, rfl, hlt, HD.out, HH.out⟩⟩
      | false =>
        go_wp2_with fail
        ((with_reducible refine HP.out.mono ?_); rintro e w' ⟨rfl, rfl⟩)
        have HE : Hid (∀ j, j < k + 1 → goneAt s j = false) := Lib.hid (fun j hj => by
          by_cases hjk : j = k
          · subst hjk; exact HD.out
          · exact HH.out j (by omega))
        go_wp2_with fail
        exact ⟨⟨k + 1, by omega, by go_num, HE⟩, by simp [intOf]; omega⟩
    · have hb : decide (k < N) = false := by simpa using hlt
      obtain rfl : k = N := by omega
      go_wp2_with fail
      go_ret
      exact ⟨rfl, _, rfl, .inl ⟨rfl, HH.out⟩⟩
/-- The row of entries while DeleteFunc goes over it. -/
structure DL (w : World) (g N c : Nat) (xs : List Nat) (W : World) : Prop where
  row : W.ownsRow 0 63 1 (.slice (some ⟨g, 0, none⟩) N c) N (ptrs xs)
  keep : Keep (fun k => k = g) w W
theorem DL.set {w W : World} {g N c : Nat} {xs : List Nat} (h : DL w g N c xs W) (j x : Nat) : DL w g N c (xs.set j x) (W.setCell ⟨g, j, none⟩ (.pointer (some ⟨x, 0, none⟩))) :=
  ⟨by have := (h.row.stored j (.pointer (some ⟨x, 0, none⟩))).1; rwa [ptrs_set] at this, keep_set h.keep j _⟩
theorem DL.len {w W : World} {g N c : Nat} {xs : List Nat} (h : DL w g N c xs W) : xs.length = N := by have := h.row.1; simpa [ptrs] using this
theorem DL.cell {w W : World} {g N c : Nat} {xs : List Nat} (h : DL w g N c xs W) {j : Nat} (hj : j < N) : W.cell? ⟨g, j, none⟩ = some (.pointer (some ⟨xs.getD j 0, 0, none⟩)) := by
  rw [h.row.cellAt j (by omega), ptrs_at _ (by rw [h.len]; exact hj)]
set_option maxRecDepth 100000 in
set_option maxHeartbeats 4000000 in
theorem delE_any {n : Nat} {w : World} {p : Nat} {r : SR} {s : MS} (h : IsStore n w p r s) :
    Calls Try.prog 25 #[.slice r.A s.all.length r.ac, predF] w fun e w' => e = .returned (.slice r.A (kept (goneAt s) s.all.length).length r.ac) ∧
      w'.ownsRow 0 63 1 (.slice r.A (kept (goneAt s) s.all.length).length r.ac) (kept (goneAt s) s.all.length).length (ptrs ((kept (goneAt s) s.all.length).map (r.es.getD · 0))) ∧ Keep (fun k => ∃ a, r.A = some a ∧ k = a.block) w w' := by
  have H := Lib.hid h
  have hN := h.inv.few
  have HI := Lib.hid (indexE_any h)
  have hrow := h.row
  have hes := h.eslen
  clear h
  obtain ⟨N, hNN⟩ : ∃ N, s.all.length = N := ⟨_, rfl⟩
  have HN := Lib.hid hNN
  rw [hNN] at hN HI hrow hes
  rw [hNN]
  have HR := Lib.hid (And.intro hrow hes)
  clear hNN hrow hes
  unfold predF at *
  go_enter Try.func25, Try.ntmps25
  go_wp2_with fail
  ((with_reducible refine HI.out.mono ?_); rintro e w' ⟨rfl, v, rfl, hv⟩)
  clear HI
  rcases hv with ⟨rfl, hv⟩ | ⟨k, rfl, hkN, hgk, hlow⟩
  · have HV := Lib.hid hv
    clear hv
    go_wp2_with fail
    go_ret
    have hk : kept (goneAt s) N = List.range N := kept_none HV.out
    rw [hk, map_range_getD _ _ (by rw [HR.out.2]; omega), List.take_of_length_le (by rw [HR.out.2]; omega), List.length_range]
    exact ⟨rfl, HR.out.1, Keep.refl _ _⟩
  · obtain ⟨g, hg, _⟩ := H.out.ptr (i := k) (by rw [HN.out]; exact hkN)
    rw [hg]
    have hfst := rowL_first r.es (by rw [HR.out.2]; omega) hlow hgk
    have V0 : Hid (DL w g N r.ac (rowL r.es (goneAt s) (k + 1)) w) := Lib.hid ⟨by rw [hfst.1, ← hg]; exact HR.out.1, Keep.refl _ _⟩
    have HF := Lib.hid hfst.2
    have hcap : N ≤ r.ac := by
      have := HR.out.1
      rw [hg] at this
      rcases this.2 with ⟨h1, h2⟩ | ⟨g', cap, cur, h1, _, _, h2, _⟩
      · omega
      · injection h1 with _ _ h3
        omega
    have hlen := H.out.eslen
    have HG := Lib.hid (And.intro hg (And.intro hgk hlow))
    clear hg hgk hlow hfst hlen
    have hbk : ((k : Int) == -1) = false := by simp
    go_wp2_with fail
    try simp only [hbk]
    go_loopw [5, 6] (fun u i wr => ∃ j m : Nat, (k < j ∧ j ≤ N ∧ m < j) ∧ u = .int .i64 (m : Int) ∧ i = .int .i64 (j : Int) ∧ Hid ((kept (goneAt s) j).length = m) ∧ Hid (DL w g N r.ac (rowL r.es (goneAt s) j) wr)) (fun _ i _ => N + 1 - (intOf i).toNat)
    case atStart => exact ⟨k + 1, k, by omega, rfl, by go_num, HF, V0⟩
    case round =>
      obtain ⟨j, m, hj, rfl, rfl, HM, VV⟩ := hrel
      obtain ⟨wo, rfl⟩ : ∃ wo : World, wo = wr := ⟨_, rfl⟩
      clear V0
      by_cases hlt : j < N
      · have hb : decide (j < N) = true := by simpa using hlt
        have q1 := VV.out.cell hlt
        rw [rowL_at r.es (goneAt s) (by rw [HR.out.2]; exact hlt)] at q1
        obtain ⟨hc, hf⟩ := H.out.ents j (by rw [HN.out]; exact hlt)
        have hrb : ∃ cur, w.heap[g]? = some (.cells cur 63 (0, 0)) := own_type HR.out.1 (by rw [HG.out.1]; rfl)
        obtain ⟨cur, hcur⟩ := hrb
        have hc2 := (VV.out.keep.block _ (blk_lt hc) (fun e => cells_ne hcur hc (by decide) e.symm)).trans hc
        have hf2 := hf.keep VV.out.keep (fun e => by
          obtain ⟨es', ck, hm⟩ := fb_map hf
          exact map_ne hcur hm e.symm)
        have HP := Lib.hid (pred_any hc2 hf2)
        have hgo : goneAt s j = (s.all.getD j ME.dflt).gone := rfl
        rw [← hgo] at HP
        obtain ⟨d, hd⟩ : ∃ d, goneAt s j = d := ⟨_, rfl⟩
        rw [hd] at HP
        have hks := kept_step (goneAt s) j
        cases d with
        | true =>
          rw [hd] at hks
          have VN := Lib.hid (show DL w g N r.ac (rowL r.es (goneAt s) (j + 1)) wo by rw [rowL_gone _ _ hd]; exact VV.out)
          have HM2 := Lib.hid (show (kept (goneAt s) (j + 1)).length = m by rw [hks]; simpa using HM.out)
          obtain ⟨eb, heb⟩ : ∃ eb, r.es.getD j 0 = eb := ⟨_, rfl⟩
          rw [heb] at q1 HP
          clear hc hf hcur hc2 hf2 hgo hd hks heb
          go_wp2_with fail
          ((with_reducible refine HP.out.mono ?_); rintro e w' ⟨rfl, rfl⟩)
          go_wp2_with fail
          exact ⟨⟨j + 1, m, by omega, rfl, by go_num, HM2, VN⟩, by simp [intOf]; omega⟩
        | false =>
          rw [hd] at hks
          have hset := VV.out.set m (r.es.getD j 0)
          have hrk := rowL_keep r.es (goneAt s) (j := j) (by rw [HR.out.2]; exact hlt) hd
          rw [HM.out] at hrk
          rw [hrk] at hset
          have HM2 := Lib.hid (show (kept (goneAt s) (j + 1)).length = m + 1 by rw [hks]; simpa using HM.out)
          have q2 := VV.out.row.frozenAt m
          have q3 := VV.out.cell (j := m) (by omega)
          obtain ⟨eb, heb⟩ : ∃ eb, r.es.getD j 0 = eb := ⟨_, rfl⟩
          rw [heb] at q1 HP hset
          obtain ⟨eb2, heb2⟩ : ∃ eb, (rowL r.es (goneAt s) j).getD m 0 = eb := ⟨_, rfl⟩
          rw [heb2] at q3
          have VN := Lib.hid hset
          have hmN : m < N := by omega
          clear hc hf hcur hc2 hf2 hgo hd hks heb hset hrk heb2
          go_wp2_with fail
          ((with_reducible refine HP.out.mono ?_); rintro e w' ⟨rfl, rfl⟩)
          go_wp2_with fail
          exact ⟨⟨j + 1, m + 1, by omega, by go_num, by go_num, HM2, VN⟩, by simp [intOf]; omega⟩
      · have hb : decide (j < N) = false := by simpa using hlt
        obtain rfl : j = N := by omega
        have hcf := fun W => run_cutE_from W g j r.ac m (by omega) (by omega)
        have hct := fun W => run_cutE_to W (some ⟨g, 0, none⟩) j r.ac m (by omega)
        have hclr : ∀ ty, (Builtin.clear_ #[55] ty #[.slice (some ⟨g, m, none⟩) (j - m) (r.ac - m)]).run Try.prog wo = .ok (.tuple #[]) (wo.setCells g m (List.replicate (j - m) (.pointer none))) := fun ty =>
          Lib.run_clear_slice (P := Try.prog) wo 55 63 ty (.pointer none) Try.underlying55 zeroE rfl rfl g m (j - m) (r.ac - m) (by omega) (fun i hi => by rw [VV.out.cell (j := m + i) (by omega)]; rfl) (fun i _ => VV.out.row.frozenAt (m + i))
        obtain ⟨ys, hy1, hy2, hy3⟩ := own_cells (List.replicate (j - m) (.pointer none)) m wo _ VV.out.row
        have hy4 := own_take hy1 (m := m) (by omega)
        rw [hy2] at hy4
        have hpt : (ptrs (rowL r.es (goneAt s) j)).take m = ptrs ((kept (goneAt s) j).map (r.es.getD · 0)) := by
          unfold ptrs rowL
          rw [← List.map_take, List.take_left' (by rw [List.length_map]; exact HM.out)]
        rw [hpt] at hy4
        obtain ⟨w3, hw3⟩ : ∃ w3, wo.setCells g m (List.replicate (j - m) (.pointer none)) = w3 := ⟨_, rfl⟩
        rw [hw3] at hclr hy3 hy4
        have HY := Lib.hid (And.intro hy4 (Keep.trans VV.out.keep hy3))
        clear hy1 hy2 hy3 hy4 hpt hw3
        go_wp2_with fail
        go_ret
        rw [HM.out, HG.out.1]
        exact ⟨rfl, HY.out.1, Keep.mono HY.out.2 (fun i e => ⟨_, rfl, e⟩)⟩
end Go.Proofs.Ytnhajhejkecihaa
