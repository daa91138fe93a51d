/- Install: Live. -/
import Derived.Test.YtnhajhejkecihaaI1
namespace Go.Proofs.Ytnhajhejkecihaa
open Go.RowKit Go.Lib
set_option linter.unusedVariables false
set_option linter.unusedSimpArgs false

def ME.lives (e : ME) : Bool := !e.dropped && e.free
def liveL (l : List ME) : List Int := (l.filter ME.lives).map fun e => (e.id : Int)
theorem live_take (l : List ME) (k : Nat) (hk : k < l.length) : liveL (l.take (k + 1)) = liveL (l.take k) ++ if (l.getD k ME.dflt).lives then [((l.getD k ME.dflt).id : Int)] else [] := by
  unfold liveL
  rw [List.take_succ_eq_append_getElem hk, List.filter_append, List.map_append, List.getD_eq_getElem?_getD, List.getElem?_eq_getElem hk]
  simp only [Option.getD_some]
  cases h : (l[k]).lives <;> simp [h]
theorem live_len (l : List ME) : (liveL l).length ≤ l.length := by
  unfold liveL
  rw [List.length_map]
  exact List.length_filter_le _ _
theorem free_count (l : List Bool) : (l.count true = 0) ↔ (l.all (!·)) = true := by
  induction l with
  | nil => simp
  | cons b l ih => cases b <;> simp_all
theorem ME.free_dec (e : ME) : decide (e.owed.count true = 0) = e.free := by
  have := free_count e.owed
  unfold ME.free
  cases h : e.owed.all (!·) with
  | true => rw [h] at this; simp [this.2 rfl]
  | false => rw [h] at this; simp [this]
set_option maxRecDepth 100000 in
set_option maxHeartbeats 4000000 in
theorem live_any {n : Nat} {w : World} {p : Nat} {r : SR} {s : MS} (h : IsStore n w p r s) : Calls Try.prog 14 #[.pointer (some ⟨p, 0, none⟩)] w fun e w' => (∃ A c, e = .returned (.slice A (liveL s.all).length c) ∧ w'.ownsRow w.heap.size 3 1 (.slice A (liveL s.all).length c) (liveL s.all).length (ints (liveL s.all))) ∧ Since w.heap.size w w' := by
  have HC := Lib.hid (closed_any h)
  have H := Lib.hid h
  have c2 := h.c2
  have hN := h.inv.few
  clear h
  obtain ⟨N, hNN⟩ : ∃ N, s.all.length = N := ⟨_, rfl⟩
  have HN := Lib.hid hNN
  rw [hNN] at c2 hN
  clear hNN
  go_enter Try.func14, Try.ntmps14
  go_wp2_with fail
  ((with_reducible refine HC.out.mono ?_); rintro e w' ⟨rfl, rfl⟩)
  clear HC
  go_wp2_with fail
  clear c2
  go_loopw [3, 13] (fun v i wr => ∃ k : Nat, k ≤ N ∧ i = .int .i64 (k : Int) ∧ Hid (wr.ownsRow w.heap.size 3 1 v (liveL (s.all.take k)).length (ints (liveL (s.all.take k))) ∧ Since w.heap.size w wr)) (fun _ i _ => N + 1 - (intOf i).toNat)
  case atStart => exact ⟨0, by omega, rfl, Lib.hid ⟨by simpa [liveL, ints] using World.ownsRow_nil _ _ _ _, Keep.refl _ _⟩⟩
  case round =>
    obtain ⟨k, hk, rfl, VV⟩ := hrel
    obtain ⟨wo, rfl⟩ : ∃ wo : World, wo = wr := ⟨_, rfl⟩
    by_cases hlt : k < N
    · have hb : decide (k < N) = true := by simpa using hlt
      have hkN : k < s.all.length := by rw [HN.out]; exact hlt
      have HS := Lib.hid (H.out.since VV.out.2)
      obtain ⟨g, hg, hp⟩ := HS.out.ptr hkN
      have hst := live_take s.all k hkN
      have hfb := (HS.out.ents k hkN).2
      obtain ⟨eb, heb⟩ : ∃ eb, r.es.getD k 0 = eb := ⟨_, rfl⟩
      obtain ⟨e, he⟩ : ∃ e, s.all.getD k ME.dflt = e := ⟨_, rfl⟩
      obtain ⟨o, ho⟩ : ∃ o, r.os.getD k 0 = o := ⟨_, rfl⟩
      have e0 := (HS.out.ecell hkN 0)
      have e11 := (HS.out.ecell hkN 11)
      have e12 := (HS.out.ecell hkN 12)
      rw [heb, he, ho] at e0 e11 e12
      replace e0 : wo.cell? ⟨eb, 0, none⟩ = some (.int .i64 e.id) := e0.trans rfl
      replace e11 : wo.cell? ⟨eb, 11, none⟩ = some (.bool e.dropped) := e11.trans rfl
      replace e12 : wo.cell? ⟨eb, 12, none⟩ = some (.map (some o)) := e12.trans rfl
      rw [heb] at hp
      rw [he] at hst hfb
      rw [ho] at hfb
      obtain ⟨C, hC⟩ : ∃ C, e.owed.count true = C := ⟨_, rfl⟩
      have hfr := e.free_dec
      rw [hC] at hfb hfr
      have hln := hfb.len (t := 64) Try.underlying64 3
      have hlk : k < 16 := by have := hN; omega
      have hle : (liveL (s.all.take k)).length ≤ k := by
        have := live_len (s.all.take k)
        rw [List.length_take] at this
        omega
      rw [hg]
      obtain ⟨d, hd⟩ : ∃ d, e.dropped = d := ⟨_, rfl⟩
      obtain ⟨idd, hid⟩ : ∃ q : Nat, e.id = q := ⟨_, rfl⟩
      rw [hd] at e11
      rw [hid] at e0 hst
      have hlv : e.lives = (!d && decide (C = 0)) := by unfold ME.lives; rw [hd, hfr]
      rw [hlv] at hst
      have HST := Lib.hid hst
      obtain ⟨l, hl⟩ : ∃ l, liveL (s.all.take k) = l := ⟨_, rfl⟩
      rw [hl] at HST hle
      have HV := Lib.hid (show wo.ownsRow w.heap.size 3 1 u3 l.length (ints l) ∧ Since w.heap.size w wo from hl ▸ VV.out)
      clear hst hlv hfr hC hfb hd hid heb he ho hg hl VV
      cases d with
      | true =>
        have HE := Lib.hid (show liveL (s.all.take (k + 1)) = l by rw [HST.out]; simp)
        go_wp2_with fail
        exact ⟨⟨k + 1, by omega, by go_num, by rw [HE.out]; exact HV⟩, by simp [intOf]; omega⟩
      | false =>
        by_cases hC0 : C = 0
        · subst hC0
          have HE := Lib.hid (show liveL (s.all.take (k + 1)) = l ++ [(idd : Int)] by rw [HST.out]; simp)
          go_wp2_with (at_builtin; go_loud (refine wpList_append_src 47 3 _ 8 w.heap.size Try.ints1 _ _ rfl rfl _ l.length (ints l) rfl (by exact HV.out.1.alloc _) _ 1 1 (ints [(idd : Int)]) rfl (by intro h; cases h) (by exact cells_new _ _ _) (ints_one1 _) (by omega) (by decide) (by have := HV.out.2.size; simp; omega) ?_); intro v' w2 hown hgr hnil hblk; have HX := Lib.hid (And.intro hown hgr); clear hown hgr hnil hblk)
          have HY := Lib.hid (show w2.ownsRow w.heap.size 3 1 v' (liveL (s.all.take (k + 1))).length (ints (liveL (s.all.take (k + 1)))) ∧ Since w.heap.size w w2 from ⟨by
            rw [HE.out, ints_append1, List.length_append]
            exact HX.out.1, (Keep.trans HV.out.2 (Since.of ((Keep.refl _ wo).alloc' _))).grown HX.out.2 (fun k e => .inl (own_low HV.out.1 e))⟩)
          exact ⟨⟨k + 1, by omega, by go_num, HY⟩, by simp [intOf]; omega⟩
        · have hc0 : decide (C = 0) = false := by simpa using hC0
          have HE := Lib.hid (show liveL (s.all.take (k + 1)) = l by rw [HST.out, hc0]; simp)
          have hc1 : ¬ ((C : Int) = 0) := by omega
          go_wp2_with fail
          exact ⟨⟨k + 1, by omega, by go_num, by rw [HE.out]; exact HV⟩, by simp [intOf]; omega⟩
    · have hb : decide (k < N) = false := by simpa using hlt
      obtain rfl : k = N := by omega
      have hown := VV.out.1
      rw [List.take_of_length_le (by rw [HN.out]; omega)] at hown
      obtain ⟨A, c, rfl⟩ := own_slice hown
      have HW := Lib.hid hown; clear hown
      go_wp2_with fail
      go_ret
      exact ⟨⟨A, c, rfl, HW.out⟩, VV.out.2⟩
end Go.Proofs.Ytnhajhejkecihaa
