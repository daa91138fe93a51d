/- The contract of put: bytes are written to contents. -/
import Derived.Test.YtbmmcdnmbdoglaaD3
namespace Go.Proofs.Ytbmmcdnmbdoglaa
open Go.RowKit
set_option linter.unusedVariables false

theorem own_cast {w : World} {base size n n' : Nat} {e : TypeId} {v : Value} {xs xs' : List Value} (h : w.ownsRow base e size v n xs) (hn : n = n') (hx : xs = xs') : w.ownsRow base e size v n' xs' := by
  subst hn; subst hx; exact h
theorem own_cap {w : World} {base size n c : Nat} {e : TypeId} {A : Option Addr} {xs : List Value} (h : w.ownsRow base e size (.slice A n c) n xs) : n ≤ c := by
  obtain ⟨_, ⟨h, h0⟩ | ⟨g', cap', cur, h, _, _, hn, _⟩⟩ := h
  · omega
  · injection h with _ _ h3
    omega
theorem b8_putL (cb : Bytes) (off : Nat) (sb : Bytes) (h : off ≤ cb.length + (off + sb.length - cb.length)) :
    (b8 (cb ++ List.replicate (off + sb.length - cb.length) 0)).take off ++ (b8 sb ++ (b8 (cb ++ List.replicate (off + sb.length - cb.length) 0)).drop (off + sb.length)) = b8 (putL cb off sb) := by
  unfold putL
  rw [b8_take, b8_drop, ← b8_append, ← b8_append, List.append_assoc]

set_option maxHeartbeats 8000000 in
theorem put_any (w : World) (v : Value) (cb : Bytes) (off : Nat) (B : Option Addr) (c : Nat) (sb : Bytes) (hown : w.ownsRow 0 5 1 v cb.length (b8 cb)) (hs : CellsAt w B sb.length (b8 sb))
    (hne : ∀ b, B = some b → v.ownBlock ≠ some b.block) (h1 : cb.length ≤ 16777216) (h2 : off + sb.length ≤ 16777216) :
    Calls Try.prog 34 #[v, .int .i64 (off : Int), .slice B sb.length c] w fun e w' => ∃ v', e = .returned v' ∧ w'.ownsRow 0 5 1 v' (putL cb off sb).length (b8 (putL cb off sb)) ∧
      Keep (fun k => v.ownBlock = some k) w w' ∧ (v'.ownBlock = v.ownBlock ∨ ∃ b, v'.ownBlock = some b ∧ w.heap.size ≤ b) := by
  obtain ⟨A0, c0, rfl⟩ := own_slice hown
  have HO := Lib.hid hown
  have HS := Lib.hid hs
  have HNE := Lib.hid hne
  have hpl := putL_length cb off sb
  have HPL := Lib.hid hpl
  clear hown hs hne hpl
  by_cases hmore : cb.length < off + sb.length
  · obtain ⟨m, hm⟩ : ∃ m : Nat, off + sb.length - cb.length = m := ⟨_, rfl⟩
    have hm0 : 0 < m := by omega
    have hmI : (off : Int) + sb.length - cb.length = (m : Int) := by omega
    have hgt : decide ((0 : Int) < (m : Int)) = true := by simpa using hm0
    have hgt' : decide (0 < m) = true := by simpa using hm0
    have hpe := b8_putL cb off sb (by omega)
    rw [hm, b8_append, ← b8_zeros] at hpe
    have HPE := Lib.hid hpe
    have HM := Lib.hid hm
    clear hpe hm
    go_enter Try.func34, Try.ntmps34
    go_wp2_with (at_builtin; refine wpList_append_zeros rfl 43 3 5 (.int .u8 0) 1 0 .i64 _ _ rfl Try.bytes Try.underlying3 rfl rfl (by decide) _ rfl cb.length (b8 cb) .i64 _ rfl m rfl hm0 HO.out ?_ (by omega) ?_)
    · omega
    · intro v1 w1 hown1 hgrow hat
      obtain ⟨g, cap, rfl, _, hgl⟩ := hown1.form (by omega)
      have hcapn : cb.length + m ≤ cap := by
        obtain ⟨_, ⟨h, _⟩ | ⟨g', cap', cur, h, _, _, hn, _⟩⟩ := hown1
        · cases h
        · cases h; exact hn
      have hk1 : Keep (fun k => (Value.slice A0 cb.length c0).ownBlock = some k) w w1 := (Keep.refl _ w).grown hgrow (fun k hk => .inl hk)
      have hn1 : cb.length + m = off + sb.length := by have := HM.out; omega
      have HO1 := Lib.hid hown1
      have HK1 := Lib.hid hk1
      have HN1 := Lib.hid hn1
      have HG := Lib.hid hgrow
      have HAT := Lib.hid hat
      clear hown1 hgrow hat hk1
      have HS1 := Lib.hid (HS.out.keep HK1.out (fun b hb e => HNE.out b hb e))
      have hgB : ∀ b, B = some b → 0 < sb.length → b.block ≠ g := by
        intro b hb hpos e
        obtain ⟨b', off', e', hlt, _⟩ := HS.out.2.2 hpos
        rw [hb] at e'
        have e2 := Option.some.inj e'
        rcases HAT.out with h | h
        · exact HNE.out b hb (by rw [← h]; simp [Value.ownBlock, e])
        · have : g = w.heap.size := by simpa [Value.ownBlock] using h
          rw [e2] at e
          simp only at e
          omega
      by_cases hcap : cap = off
      · have hs0 : sb.length ≤ 0 := by omega
        subst hcap
        go_wp2_with (refine wpList_copy_row (o := ⟨some 24, _, _, _, _, _⟩) rfl _ _ 43 5 (.int .u8 0) 1 0 Try.bytes rfl _ _ _ HO1.out cap _ _ _ rfl ?_ _ _ _ rfl _ HS1.out ?_ ?_ (b8_one _) ?_)
        try any_goals omega
        try any_goals (intro h; omega)
        try any_goals (intro h b hb; cases hb; rfl)
        intro w2 hown2 hg2
        have HO2 := Lib.hid hown2
        have HG2 := Lib.hid hg2
        clear hown2 hg2
        go_wp2_with fail
        go_ret
        refine ⟨_, rfl, own_cast HO2.out (by have := HPL.out; omega) HPE.out, HK1.out.then ((Keep.refl (fun k => (Value.slice (some ⟨g, 0, none⟩) (cb.length + m) cap).ownBlock = some k) w1).grown HG2.out (fun k hk => .inl hk)) ?_, ?_⟩
        · intro i hi
          rcases HAT.out with h | h
          · exact .inl (by rw [← h]; exact hi)
          · rw [show i = w.heap.size by have := h ▸ hi; exact (Option.some.inj this).symm]
            exact .inr (Nat.le_refl _)
        · rcases HAT.out with h | h
          · exact .inl h
          · exact .inr ⟨_, h, Nat.le_refl _⟩
      · skip
        go_wp2_with (refine wpList_copy_row (o := ⟨some 24, _, _, _, _, _⟩) rfl _ _ 43 5 (.int .u8 0) 1 0 Try.bytes rfl _ _ _ HO1.out off _ _ _ rfl ?_ _ _ _ rfl _ HS1.out ?_ ?_ (b8_one _) ?_)
        try any_goals omega
        try any_goals (intro h; omega)
        try any_goals (intro h b hb; cases hb; rfl)
        intro w2 hown2 hg2
        have HO2 := Lib.hid hown2
        have HG2 := Lib.hid hg2
        clear hown2 hg2
        go_wp2_with fail
        go_ret
        refine ⟨_, rfl, own_cast HO2.out (by have := HPL.out; omega) HPE.out, HK1.out.then ((Keep.refl (fun k => (Value.slice (some ⟨g, 0, none⟩) (cb.length + m) cap).ownBlock = some k) w1).grown HG2.out (fun k hk => .inl hk)) ?_, ?_⟩
        · intro i hi
          rcases HAT.out with h | h
          · exact .inl (by rw [← h]; exact hi)
          · rw [show i = w.heap.size by have := h ▸ hi; exact (Option.some.inj this).symm]
            exact .inr (Nat.le_refl _)
        · rcases HAT.out with h | h
          · exact .inl h
          · exact .inr ⟨_, h, Nat.le_refl _⟩
  · have hle : off + sb.length ≤ cb.length := by omega
    have hd : decide ((0 : Int) < (off : Int) + sb.length - cb.length) = false := by simp; omega
    have hpe := b8_putL cb off sb (by omega)
    rw [show off + sb.length - cb.length = 0 by omega] at hpe
    simp only [List.replicate_zero, List.append_nil] at hpe
    have HPE := Lib.hid hpe
    clear hpe
    have hcapn : cb.length ≤ c0 := own_cap HO.out
    by_cases hcap : c0 = off
    · have hs0 : sb.length ≤ 0 := by omega
      subst hcap
      go_enter Try.func34, Try.ntmps34
      go_wp2_with (refine wpList_copy_row (o := ⟨some 24, _, _, _, _, _⟩) rfl _ _ 43 5 (.int .u8 0) 1 0 Try.bytes rfl _ _ _ HO.out c0 _ _ _ rfl ?_ _ _ _ rfl _ HS.out ?_ ?_ (b8_one _) ?_)
      try any_goals omega
      try any_goals (intro h; omega)
      try any_goals (intro h b hb; cases hb; rfl)
      intro w2 hown2 hg2
      have HO2 := Lib.hid hown2
      have HG2 := Lib.hid hg2
      clear hown2 hg2
      go_wp2_with fail
      go_ret
      refine ⟨_, rfl, own_cast HO2.out (by have := HPL.out; omega) HPE.out, (Keep.refl _ w).grown HG2.out (fun k hk => .inl hk), .inl rfl⟩
    · by_cases hpos : 0 < cb.length
      · obtain ⟨g, cap, hv, _, _⟩ := HO.out.form hpos
        injection hv with hv1 _ hv3
        subst hv1
        subst hv3
        go_enter Try.func34, Try.ntmps34
        go_wp2_with (refine wpList_copy_row (o := ⟨some 24, _, _, _, _, _⟩) rfl _ _ 43 5 (.int .u8 0) 1 0 Try.bytes rfl _ _ _ HO.out off _ _ _ rfl ?_ _ _ _ rfl _ HS.out ?_ ?_ (b8_one _) ?_)
        try any_goals omega
        try any_goals (intro h; omega)
        try any_goals (intro h b hb; cases hb; rfl)
        intro w2 hown2 hg2
        have HO2 := Lib.hid hown2
        have HG2 := Lib.hid hg2
        clear hown2 hg2
        go_wp2_with fail
        go_ret
        refine ⟨_, rfl, own_cast HO2.out (by have := HPL.out; omega) HPE.out, (Keep.refl _ w).grown HG2.out (fun k hk => .inl hk), .inl rfl⟩
      · have hs0 : sb.length ≤ 0 := by omega
        go_enter Try.func34, Try.ntmps34
        go_wp2_with (refine wpList_copy_row (o := ⟨some 24, _, _, _, _, _⟩) rfl _ _ 43 5 (.int .u8 0) 1 0 Try.bytes rfl _ _ _ HO.out off _ _ _ rfl ?_ _ _ _ rfl _ HS.out ?_ ?_ (b8_one _) ?_)
        try any_goals omega
        try any_goals (intro h; omega)
        try any_goals (intro h b hb; cases hb; rfl)
        intro w2 hown2 hg2
        have HO2 := Lib.hid hown2
        have HG2 := Lib.hid hg2
        clear hown2 hg2
        go_wp2_with fail
        go_ret
        refine ⟨_, rfl, own_cast HO2.out (by have := HPL.out; omega) HPE.out, (Keep.refl _ w).grown HG2.out (fun k hk => .inl hk), .inl rfl⟩
end Go.Proofs.Ytbmmcdnmbdoglaa
