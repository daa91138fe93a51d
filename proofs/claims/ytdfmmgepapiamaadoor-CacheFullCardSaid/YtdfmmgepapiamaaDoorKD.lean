/- facsimileref01.Decimal, at numbers that are not negative. -/
import Derived.Test.YtdfmmgepapiamaaDoorKI
import Derived.Lib.ConvBytes
import Derived.Laws.IdiomStrings
import Derived.Laws.Concat
namespace Go.Proofs.YtdfmmgepapiamaaDoor
open Go.RowKit
set_option linter.unusedVariables false

theorem add_bytes (x y : Bytes) (W : World) (h : x.length + y.length ≤ 1000000) : (Op.stringOp .add (sb x) (sb y)).run Tryd.prog W = .ok (.string (sb (x ++ y))) W := by
  rw [run_string_add_sum W _ _ (by rw [sb_size, sb_size]; omega)]
  congr 2
theorem run_back (w : World) (g off : Nat) (c : Nat) (l : Bytes) (hc : ∀ j (hj : j < l.length), w.cell? ⟨g, off + j, none⟩ = some (.int .u8 (l[j].toNat : Int))) :
    (convert 40 9 (.slice (some ⟨g, off, none⟩) l.length c)).run Tryd.prog w = .ok (.string (sb l)) w :=
  run_convert_bytes_back w 40 9 5 ⟨g, off, none⟩ c l Tryd.underlying40 Tryd.underlying5 Tryd.underlying9 (fun j hj => by rw [Addr.add_lit]; exact hc j hj)
/-- What Decimal holds when m is left. -/
def DecI (n m : Nat) (s : Bytes) : Prop := s.length ≤ 21 ∧ (m = 0 → s = Lib.decDigits n) ∧ (0 < m → Lib.decDigits m ++ s = Lib.decDigits n)
theorem dec_step {n m : Nat} {s : Bytes} (h : DecI n m s) (hn : (Lib.decDigits n).length ≤ 21) (hm : 0 < m) : DecI n (m / 10) ([UInt8.ofNat (48 + m % 10)] ++ s) := by
  obtain ⟨h1, h2, h3⟩ := h
  have h4 := h3 hm
  by_cases h9 : m < 10
  · have e : m / 10 = 0 := by omega
    have e2 : m % 10 = m := by omega
    rw [Lib.decDigits_one h9] at h4
    rw [e, e2, h4]
    exact ⟨hn, fun _ => rfl, fun h => by omega⟩
  · have e : Lib.decDigits m = Lib.decDigits (m / 10) ++ [UInt8.ofNat (48 + m % 10)] := by rw [Lib.decDigits, dif_neg h9]
    rw [e, List.append_assoc] at h4
    refine ⟨?_, fun h => by omega, fun _ => h4⟩
    rw [← h4] at hn
    rw [List.length_append] at hn
    omega
set_option maxHeartbeats 2000000 in
theorem decimal_any (n : Nat) (hn : n ≤ 9223372036854775807) (w : World) :
    Calls Tryd.prog 41 #[.int .i64 (n : Int)] w fun e w' => e = .returned (.string (sb (Lib.itoa (n : Int)))) ∧ Keep (fun _ => False) w w' := by
  have hE : Lib.itoa (n : Int) = Lib.decDigits n := Lib.itoa_nonneg n
  have hlen : (Lib.decDigits n).length ≤ 21 := by
    rw [← hE]; exact Lib.itoa_length_le _ (by omega) (by omega)
  rw [hE]
  obtain ⟨R, hR⟩ : ∃ R, sb (Lib.decDigits n) = R := ⟨_, rfl⟩
  rw [hR]
  have HR := Lib.hid hR
  have HL := Lib.hid hlen
  clear hE hR hlen
  by_cases h0 : n = 0
  · subst h0
    have : R = ⟨#[48]⟩ := by rw [← HR.out, Lib.decDigits_one (by omega)]; rfl
    subst this
    go_enter Tryd.func41, Tryd.ntmps41
    go_wp2_with fail
    go_ret
    exact ⟨rfl, Keep.refl _ _⟩
  · have hb0 : ((n : Int) == 0) = false := by simpa using h0
    have hb1 : decide ((n : Int) < 0) = false := by simp
    have hd0 := Lib.hid (show DecI n n [] from ⟨by simp, fun h => absurd h h0, fun _ => by simp⟩)
    go_enter Tryd.func41, Tryd.ntmps41
    go_wp2_with fail
    go_loopw [3, 4] (fun t i wr => ∃ (m : Nat) (s : Bytes), m ≤ n ∧ i = .int .i64 (m : Int) ∧ t = .string (sb s) ∧ Hid (DecI n m s) ∧ Hid (Keep (fun _ => False) w wr)) (fun _ i _ => (intOf i).toNat)
    case atStart => exact ⟨n, [], Nat.le_refl _, rfl, rfl, hd0, Lib.hid (Keep.refl _ _)⟩
    case round =>
      obtain ⟨m, s, hmn, rfl, rfl, HD, HK⟩ := hrel
      obtain ⟨wo, rfl⟩ : ∃ wo : World, wo = wr := ⟨_, rfl⟩
      by_cases hm : m = 0
      · subst hm
        have hs : sb s = R := by rw [HD.out.2.1 rfl, HR.out]
        obtain ⟨ss, hss⟩ : ∃ ss, sb s = ss := ⟨_, rfl⟩
        rw [hss] at hs ⊢
        subst hs
        clear hss
        go_wp2_with fail
        go_ret
        exact ⟨rfl, HK.out⟩
      · have hbm : ((m : Int) != 0) = true := by simpa using hm
        have hst := dec_step HD.out HL.out (by omega)
        have HST := Lib.hid hst
        have hsl := HD.out.1
        have hcv : (convert 40 9 (.slice (some ⟨wo.heap.size, 0, none⟩) 1 1)).run Tryd.prog (wo.alloc (.cells #[.int .u8 (48 + (m : Int) % 10)] 5)) = .ok (.string (sb [UInt8.ofNat (48 + m % 10)])) (wo.alloc (.cells #[.int .u8 (48 + (m : Int) % 10)] 5)) :=
          run_back _ wo.heap.size 0 1 [UInt8.ofNat (48 + m % 10)] (fun j hj => by
            obtain rfl : j = 0 := by simpa using hj
            rw [blk_cell (heap_alloc_new wo _)]
            simp
            omega)
        have hadd : ∀ W : World, (Op.stringOp .add (sb [UInt8.ofNat (48 + m % 10)]) (sb s)).run Tryd.prog W = .ok (.string (sb ([UInt8.ofNat (48 + m % 10)] ++ s))) W := fun W => add_bytes _ _ W (by simp; omega)
        obtain ⟨s1, hs1⟩ : ∃ s1, sb [UInt8.ofNat (48 + m % 10)] = s1 := ⟨_, rfl⟩
        obtain ⟨s2, hs2⟩ : ∃ s2, [UInt8.ofNat (48 + m % 10)] ++ s = s2 := ⟨_, rfl⟩
        rw [hs1, hs2] at hadd
        rw [hs1] at hcv
        rw [hs2] at HST
        have hm10 : (0 : Int) ≤ (m : Int) % 10 := by omega
        have hm11 : (m : Int) % 10 < 10 := by omega
        have hm12 : decide ((m : Int) % 10 < 0) = false := by simp; omega
        have hmz : 0 < m := by omega
        clear hst hs1 hs2 hsl hm
        go_wp2_with fail
        refine ⟨⟨m / 10, s2, by omega, by rw [Int.natCast_ediv]; rfl, rfl, HST, Lib.hid (HK.out.alloc' _)⟩, by simp [intOf]; omega⟩
end Go.Proofs.YtdfmmgepapiamaaDoor
