/- Install: Fetch. -/
import Derived.Test.YtnhajhejkecihaaIC
import Derived.Laws.IdiomStrings
namespace Go.Proofs.Ytnhajhejkecihaa
open Go.RowKit Go.Lib
set_option linter.unusedVariables false

def line (M : Bytes) (k : Nat) : Bytes := (M.drop (16 * k)).take 16
/-- A cache that has the lines from lo on that begin below h as they are. -/
def fill (M : Bytes) (lo h : Nat) (f : Cache) : Cache := fun i => if (lo : Int) ≤ i ∧ 16 * i < (h : Int) then some (line M i.toNat) else f i
theorem fill_start (M : Bytes) (lo : Nat) (f : Cache) : fill M lo (16 * lo) f = f := by
  funext i
  unfold fill
  rw [if_neg]
  omega
theorem fill_hit (M : Bytes) (lo h : Nat) (f : Cache) (hl : 16 * lo ≤ h) (hf : f ((h / 16 : Nat) : Int) = some (line M (h / 16)) ∨ (f ((h / 16 : Nat) : Int) = none ∧ 16 * (h / 16) < h)) : fill M lo (h + 1) f = fill M lo h f := by
  funext i
  unfold fill
  by_cases h2 : (lo : Int) ≤ i ∧ 16 * i < (h : Int)
  · rw [if_pos h2, if_pos (by omega)]
  · rw [if_neg h2]
    by_cases h3 : (lo : Int) ≤ i ∧ 16 * i < ((h + 1 : Nat) : Int)
    · rw [if_pos h3]
      obtain rfl : i = ((h / 16 : Nat) : Int) := by omega
      rcases hf with hf | hf
      · rw [hf]; rfl
      · omega
    · rw [if_neg h3]
theorem fill_miss (M : Bytes) (lo h : Nat) (f : Cache) (hl : 16 * lo ≤ h) : (fun j => if j = ((h / 16 : Nat) : Int) then some (line M (h / 16)) else fill M lo h f j) = fill M lo (h + 1) f := by
  funext i
  unfold fill
  by_cases h1 : i = ((h / 16 : Nat) : Int)
  · rw [if_pos h1, if_pos (by omega), h1]; rfl
  · rw [if_neg h1]
    by_cases h2 : (lo : Int) ≤ i ∧ 16 * i < (h : Int)
    · rw [if_pos h2, if_pos (by omega)]
    · rw [if_neg h2, if_neg (by omega)]
theorem line_len {M : Bytes} (h : M.length = 4096) {k : Nat} (hk : 16 * k + 16 ≤ 4096) : (line M k).length = 16 := by unfold line; simp; omega
theorem run_string_mem {w : World} (g off c : Nat) (l : Bytes) (hc : ∀ j (hj : j < l.length), w.cell? ⟨g, off + j, none⟩ = some (.int .u8 (l[j].toNat : Int))) :
    (convert 46 9 (.slice (some ⟨g, off, none⟩) l.length c)).run Try.prog w = .ok (.string (sb l)) w :=
  run_convert_bytes_back w 46 9 5 ⟨g, off, none⟩ c l Try.bytes.ht Try.underlying5 Try.underlying9 (fun j hj => by rw [Addr.add_lit]; exact hc j hj)
/-- A line of the memory, as the memory's row has it. -/
theorem IsBoard.line_cell {w : World} {b : Nat} {r : BR} {M : Bytes} {fs : List Cache} (h : IsBoard w b r M fs) (q : Nat) (hq : 16 * q + 16 ≤ 4096) (j : Nat) (hj : j < (line M q).length) : w.cell? ⟨r.mb, 16 * q + j, none⟩ = some (.int .u8 ((line M q)[j].toNat : Int)) := by
  rcases h.mem.2 with ⟨h1, _⟩ | ⟨g, cap, cur, h1, _, h3, h4, _, h6, h7⟩
  · cases h1
  · injection h1 with h1 _ _
    injection h1 with h1
    injection h1 with h1
    subst h1
    have hl := line_len h.len hq
    have hj2 := hj
    rw [hl] at hj2
    have hM : 16 * q + j < M.length := by rw [h.len]; omega
    have e1 : (line M q)[j] = M[16 * q + j] := by simp [line]
    have h8 : (cur.toList.take (4096 * 1))[16 * q + j]? = (b8 M)[16 * q + j]? := by rw [h7]
    rw [List.getElem?_take_of_lt (by omega)] at h8
    rw [blk_cell h3, e1]
    simp only [b8, List.getElem?_map, List.getElem?_eq_getElem hM] at h8
    simpa using h8
theorem line_get {M : Bytes} (h : M.length = 4096) {K : Nat} (hK : K < 4096) : (line M (K / 16)).getD (K % 16) 0 = M.getD K 0 := by
  unfold line
  rw [List.getD_eq_getElem?_getD, List.getD_eq_getElem?_getD, List.getElem?_take_of_lt (by omega), List.getElem?_drop, show 16 * (K / 16) + K % 16 = K by omega]
theorem own_bytes {w : World} {base n c : Nat} {A : Option Addr} {l : Bytes} (h : w.ownsRow base 5 1 (.slice A n c) n (b8 l)) (hn : 0 < n) : ∃ g, A = some ⟨g, 0, none⟩ ∧ l.length = n ∧ ∀ j (hj : j < l.length), w.cell? ⟨g, 0 + j, none⟩ = some (.int .u8 (l[j].toNat : Int)) := by
  have hl : l.length = n := by simpa [b8_length] using h.1
  rcases h.2 with ⟨_, h2⟩ | ⟨g, cap, cur, h1, _, h3, h4, _, h6, h7⟩
  · omega
  · injection h1 with h1 _ _
    refine ⟨g, h1, hl, fun j hj => ?_⟩
    have h8 : (cur.toList.take (n * 1))[j]? = (b8 l)[j]? := by rw [h7]
    rw [List.getElem?_take_of_lt (by omega)] at h8
    rw [Nat.zero_add, blk_cell h3]
    simp only [b8, List.getElem?_map, List.getElem?_eq_getElem hj] at h8
    simpa using h8
theorem IsBoard.mc_le {w : World} {b : Nat} {r : BR} {M : Bytes} {fs : List Cache} (h : IsBoard w b r M fs) : 4096 ≤ r.mc := by
  rcases h.mem.2 with ⟨h1, _⟩ | ⟨g, cap, cur, h1, _, h3, h4, _, h6, h7⟩
  · cases h1
  · injection h1 with h1 _ h1c
    omega
theorem run_cut_mem (w : World) (g n c l m : Nat) (h1 : l ≤ m) (h2 : m ≤ c) (h3 : ¬ c = l) :
    (Instr.slice 46 (.slice (some ⟨g, 0, none⟩) n c) (some (.int .i64 (l : Int))) (some (.int .i64 (m : Int))) none).run Try.prog w = .ok (.slice (some ⟨g, l, none⟩) (m - l) (c - l)) w := by
  have h1 : (0 : Int) ≤ l := by omega
  have h2 : (l : Int) ≤ m := by omega
  have h4 : (m : Int) ≤ c := by omega
  go_simp
/-- Behind the append of a byte. -/
theorem fetch_next {w wo w2 : World} {b m0 : Nat} {r : BR} {M : Bytes} {fs : List Cache} {c K j co g cap a A : Nat} {Ao : Option Addr} (hH : IsBoard w b r M fs)
    (h : wo.ownsRow w.heap.size 5 1 (.slice Ao j co) j (b8 ((M.drop A).take j)) ∧ IsBoard wo b r M (fs.set c (fill M a K (fs.getD c (fun _ => none)))) ∧ Keep (fun k => k = m0) w wo)
    (hn : (M.drop A).take (j + 1) = (M.drop A).take j ++ [M.getD K 0]) (hf : fill M a (K + 1) (fs.getD c (fun _ => none)) = fill M a K (fs.getD c (fun _ => none))) {o : Obj}
    (hown : w2.ownsRow w.heap.size 5 1 (.slice (some ⟨g, 0, none⟩) (j + 1) cap) (j + 1) (b8 ((M.drop A).take j) ++ [.int .u8 ((M.getD K 0).toNat : Int)])) (hg : (wo.alloc o).grownBy w2 (Value.slice Ao j co).ownBlock) :
    w2.ownsRow w.heap.size 5 1 (.slice (some ⟨g, 0, none⟩) (j + 1) cap) (j + 1) (b8 ((M.drop A).take (j + 1))) ∧ IsBoard w2 b r M (fs.set c (fill M a (K + 1) (fs.getD c (fun _ => none)))) ∧ Keep (fun k => k = m0) w w2 := by
  have hk : Keep (fun k => (Value.slice Ao j co).ownBlock = some k) wo w2 := ((Keep.refl _ wo).alloc o).grown hg (fun k e => .inl e)
  have hb := h.2.1.keep hk (fun k hkf e => by
    have h1 := hH.foot_lt k hkf
    have h2 := own_low h.1 e
    omega)
  refine ⟨by rw [hn, b8_append]; exact hown, by rw [hf]; exact hb, ?_⟩
  · exact h.2.2.then hk (fun i e => .inr (own_low h.1 e))
theorem fetch_next2 {w wo w2 : World} {b m0 : Nat} {r : BR} {M : Bytes} {fs : List Cache} {c K j co g cap a A : Nat} {Ao : Option Addr} (hH : IsBoard w b r M fs)
    (h : wo.ownsRow w.heap.size 5 1 (.slice Ao j co) j (b8 ((M.drop A).take j)) ∧ IsBoard wo b r M (fs.set c (fill M a (K + 1) (fs.getD c (fun _ => none)))) ∧ Keep (fun k => k = m0) w wo)
    (hn : (M.drop A).take (j + 1) = (M.drop A).take j ++ [M.getD K 0]) {o : Obj}
    (hown : w2.ownsRow w.heap.size 5 1 (.slice (some ⟨g, 0, none⟩) (j + 1) cap) (j + 1) (b8 ((M.drop A).take j) ++ [.int .u8 ((M.getD K 0).toNat : Int)])) (hg : (wo.alloc o).grownBy w2 (Value.slice Ao j co).ownBlock) :
    w2.ownsRow w.heap.size 5 1 (.slice (some ⟨g, 0, none⟩) (j + 1) cap) (j + 1) (b8 ((M.drop A).take (j + 1))) ∧ IsBoard w2 b r M (fs.set c (fill M a (K + 1) (fs.getD c (fun _ => none)))) ∧ Keep (fun k => k = m0) w w2 := by
  have hk : Keep (fun k => (Value.slice Ao j co).ownBlock = some k) wo w2 := ((Keep.refl _ wo).alloc o).grown hg (fun k e => .inl e)
  have hb := h.2.1.keep hk (fun k hkf e => by
    have h1 := hH.foot_lt k hkf
    have h2 := own_low h.1 e
    omega)
  exact ⟨by rw [hn, b8_append]; exact hown, hb, h.2.2.then hk (fun i e => .inr (own_low h.1 e))⟩
set_option maxRecDepth 100000 in
set_option maxHeartbeats 4000000 in
theorem fetch_any {w : World} {b : Nat} {r : BR} {M : Bytes} {fs : List Cache} (h : IsBoard w b r M fs) (c a n : Nat) (hc : c < fs.length) (hn0 : 0 < n) (hn : 16 * a + n ≤ 4096)
    (hco : ∀ k : Nat, a ≤ k → 16 * k < 16 * a + n → (fs.getD c (fun _ => none)) k = none ∨ (fs.getD c (fun _ => none)) k = some (line M k)) :
    Calls Try.prog 28 #[.pointer (some ⟨b, 0, none⟩), .int .i64 c, .int .i64 ((16 * a : Nat) : Int), .int .i64 n] w fun e w' => e = .returned (.tuple #[.string (sb ((M.drop (16 * a)).take n)), .int .i64 0]) ∧ IsBoard w' b r M (fs.set c (fill M a (16 * a + n) (fs.getD c (fun _ => none)))) ∧ Keep (fun k => k = r.ms.getD c 0) w w' := by
  have H := Lib.hid h
  have c1 := h.c1
  have HI := Lib.hid (inside_any h (16 * a) n hn)
  have g1 : decide (fs.length ≤ c) = false := by simpa using hc
  have e1 := h.map hc
  obtain ⟨A, hA⟩ : ∃ A, 16 * a = A := ⟨_, rfl⟩
  rw [hA] at HI
  rw [hA]
  have HA := Lib.hid hA
  have HCO := Lib.hid hco
  have hA2 : A + n ≤ 4096 := by omega
  clear h hA hco
  obtain ⟨m0, hm0⟩ : ∃ m, r.ms.getD c 0 = m := ⟨_, rfl⟩
  have HM := Lib.hid hm0
  rw [hm0] at e1
  rw [hm0]
  clear hm0
  obtain ⟨i0, gi, gz0, gz1, gz2⟩ := info_parts Try.bytes.info
  have GI := Lib.hid gi
  have GZ0 := Lib.hid gz0
  have GZ1 := Lib.hid gz1
  have GZ2 := Lib.hid gz2
  clear gi gz0 gz1 gz2
  go_enter Try.func28, Try.ntmps28
  go_wp2_with fail
  ((with_reducible refine HI.out.mono ?_); rintro e w' ⟨rfl, rfl⟩)
  clear HI
  go_wp2_with fail
  go_loopw [11, 12] (fun o i wr => ∃ (K j : Nat), (A ≤ K ∧ K ≤ A + n) ∧ i = .int .i64 (K : Int) ∧ Hid (K = A + j) ∧ ∃ Ao co, o = .slice Ao j co ∧ Hid (wr.ownsRow w.heap.size 5 1 (.slice Ao j co) j (b8 ((M.drop A).take j)) ∧ IsBoard wr b r M (fs.set c (fill M a K (fs.getD c (fun _ => none)))) ∧ Keep (fun k => k = m0) w wr)) (fun _ i _ => A + n + 1 - (intOf i).toNat)
  case atStart => exact ⟨A, 0, by omega, rfl, Lib.hid rfl, _, _, rfl, Lib.hid ⟨World.ownsRow_nil _ _ _ _, by rw [← HA.out, fill_start, set_same]; exact H.out, Keep.refl _ _⟩⟩
  case round =>
    obtain ⟨K, j, hK, rfl, hKj, Ao, co, rfl, HB⟩ := hrel
    obtain ⟨wo, rfl⟩ : ∃ wo : World, wo = wr := ⟨_, rfl⟩
    clear c1 e1
    have d0 := HB.out.2.1.c0
    have d1 := HB.out.2.1.c1
    rw [List.length_set] at d1
    have hlen : c < (fs.set c (fill M a K (fs.getD c (fun _ => none)))).length := by rw [List.length_set]; exact hc
    by_cases hlt : K < A + n
    · have hb : decide ((K : Int) < (A : Int) + (n : Int)) = true := by simp; omega
      have hjn : j < n := by have := hKj.out; omega
      have hfs := HB.out.2.1.maps c hlen
      rw [getD_set_self _ _ _ _ hc, HM.out] at hfs
      obtain ⟨q, hq⟩ : ∃ q, K / 16 = q := ⟨_, rfl⟩
      obtain ⟨p, hp⟩ : ∃ p, K % 16 = p := ⟨_, rfl⟩
      have hqi : (K : Int) / 16 = (q : Int) := by omega
      have hpi : (K : Int) % 16 = (p : Int) := by omega
      have hp16 : p < 16 := by omega
      have hq256 : 16 * q + 16 ≤ 4096 := by omega
      have hl1 := hfs.look_ok Try.underlying3 Try.underlying79 Try.underlying9 (by kernel_rfl) (i := (q : Int)) (wf64 (by omega))
      have hl2 := hfs.look Try.underlying3 Try.underlying79 Try.underlying9 (by kernel_rfl) (i := (q : Int)) (wf64 (by omega))
      have hMl := HB.out.2.1.len
      have hnext : (M.drop A).take (j + 1) = (M.drop A).take j ++ [M.getD K 0] := by
        have hKA := hKj.out
        rw [List.take_add_one, List.getElem?_drop, ← hKA, List.getElem?_eq_getElem (by omega), List.getD_eq_getElem?_getD, List.getElem?_eq_getElem (by omega)]
        rfl
      have hget : (line M q).getD p 0 = M.getD K 0 := by rw [← hq, ← hp]; exact line_get hMl (by omega)
      have hll := line_len hMl hq256
      have HN := Lib.hid (And.intro hnext hget)
      clear hnext hget
      have hixs : p < (⟨(line M q).toArray⟩ : ByteArray).size := by show p < (line M q).toArray.size; rw [List.size_toArray, hll]; exact hp16
      have hix : (⟨(line M q).toArray⟩ : ByteArray)[p]'hixs = M.getD K 0 := by
        rw [← HN.out.2, List.getD_eq_getElem?_getD, List.getElem?_eq_getElem (by omega)]
        rfl
      have HX := Lib.hid hix
      clear hix hll hMl
      cases hfq : fill M a K (fs.getD c (fun _ => none)) (q : Int) with
      | some l =>
        rw [hfq] at hl1 hl2
        simp only [Option.getD_some, Option.isSome_some] at hl1 hl2
        have hfK : fill M a (K + 1) (fs.getD c (fun _ => none)) = fill M a K (fs.getD c (fun _ => none)) ∧ l = line M q := by
          have hKA := HA.out
          by_cases hin : 16 * q < K
          · have e : fill M a K (fs.getD c (fun _ => none)) (q : Int) = some (line M q) := by
              unfold fill
              rw [if_pos (by omega)]
              rfl
            rw [e] at hfq
            refine ⟨?_, (Option.some.inj hfq).symm⟩
            funext i
            unfold fill
            by_cases h2 : (a : Int) ≤ i ∧ 16 * i < (K : Int)
            · rw [if_pos h2, if_pos (by omega)]
            · rw [if_neg h2, if_neg (by omega)]
          · have e : fill M a K (fs.getD c (fun _ => none)) (q : Int) = fs.getD c (fun _ => none) (q : Int) := by
              unfold fill
              rw [if_neg (by omega)]
            rw [e] at hfq
            rcases HCO.out q (by omega) (by omega) with h0 | h0
            · rw [h0] at hfq; cases hfq
            · have hlq := h0
              rw [hfq] at hlq
              exact ⟨fill_hit M a K _ (by omega) (.inl (by rw [hq]; exact h0)), Option.some.inj hlq⟩
        obtain ⟨hfK, rfl⟩ := hfK
        have HF := Lib.hid hfK
        clear hfs hq hp hfq hfK
        go_wp2_with (at_builtin; go_loud (refine wpList_append_lies _ rfl _ _ _ rfl w.heap.size 5 i0 _ 1 1 Try.bytes.ht GI.out GZ0.out GZ1.out GZ2.out rfl (by decide) (.slice Ao j co) j _ rfl (by exact HB.out.1.alloc _) ⟨_, 0, none⟩ 1 1 _ rfl rfl (by exact World.news_of_block (heap_alloc_new _ _)) (by simp [Value.oneCell']) (by omega) (by unfold maxLen; omega) (by omega) (by have := HB.out.2.2.size; simp; omega) _ rfl ?_); intro g cap w2 hown hgrow hat hlt2; rw [HX.out] at hown; have HB2 := Lib.hid (fetch_next H.out HB.out HN.out.1 HF.out hown hgrow); clear hown hgrow hat hlt2)
        exact ⟨⟨K + 1, j + 1, by omega, by go_num, Lib.hid (by have := hKj.out; omega), _, _, rfl, HB2⟩, by simp [intOf]; omega⟩
      | none =>
        rw [hfq] at hl1
        simp only [Option.getD_none, Option.isSome_none] at hl1
        have hmc := HB.out.2.1.mc_le
        obtain ⟨L, hL⟩ : ∃ L, 16 * q = L := ⟨_, rfl⟩
        have hL1 : (q : Int) * 16 = (L : Int) := by omega
        have hL2 : ((q : Int) + 1) * 16 = (L : Int) + 16 := by omega
        have h5 : (L : Int) + 16 ≤ (r.mc : Int) := by omega
        have h6 : ¬ r.mc = L := by omega
        have hll := line_len HB.out.2.1.len hq256
        have hcv : (convert 46 9 (.slice (some ⟨r.mb, L, none⟩) 16 (r.mc - L))).run Try.prog wo = .ok (.string (sb (line M q))) wo := by
          have := run_string_mem (w := wo) r.mb L (r.mc - L) (line M q) (fun j hj => by rw [← hL]; exact HB.out.2.1.line_cell q hq256 j hj)
          rwa [hll] at this
        obtain ⟨wd, hput, hfd, hkd⟩ := hfs.put Try.underlying3 Try.underlying79 Try.underlying9 (Nat.lt_of_le_of_lt (cnt_le _) (by unfold maxLen; omega)) (i := (q : Int)) (wf64 (by omega)) (s := sb (line M q)) (by rw [sb_size, hll]; unfold maxLen; omega)
        have hfun : (fun j => if j = (q : Int) then some (sb (line M q)).data.toList else fill M a K (fs.getD c (fun _ => none)) j) = fill M a (K + 1) (fs.getD c (fun _ => none)) := by
          have := fill_miss M a K (fs.getD c (fun _ => none)) (by have := HA.out; omega)
          rw [hq] at this
          exact this
        have hcn : (if (fill M a K (fs.getD c (fun _ => none)) (q : Int)).isSome then cnt (fill M a K (fs.getD c (fun _ => none))) else cnt (fill M a K (fs.getD c (fun _ => none))) + 1) = cnt (fill M a (K + 1) (fs.getD c (fun _ => none))) := by
          rw [← hfun]
          have := cnt_one (f := fill M a K (fs.getD c (fun _ => none))) (f' := fun j => if j = (q : Int) then some (sb (line M q)).data.toList else fill M a K (fs.getD c (fun _ => none)) j) (q := q) (by omega) (fun k hk => by simp only [if_neg hk])
          rw [hfq] at this ⊢
          simp at this ⊢
          omega
        rw [hfun, hcn] at hfd
        have hl3 := hfd.look Try.underlying3 Try.underlying79 Try.underlying9 (by kernel_rfl) (i := (q : Int)) (wf64 (by omega))
        have hfq2 : fill M a (K + 1) (fs.getD c (fun _ => none)) (q : Int) = some (line M q) := by
          have := congrFun hfun (q : Int)
          simp only [if_true] at this
          exact this.symm
        rw [hfq2] at hl3
        simp only [Option.getD_some] at hl3
        have HB1 : Hid (wd.ownsRow w.heap.size 5 1 (.slice Ao j co) j (b8 ((M.drop A).take j)) ∧ IsBoard wd b r M (fs.set c (fill M a (K + 1) (fs.getD c (fun _ => none)))) ∧ Keep (fun k => k = m0) w wd) := by
          have hbt := HB.out.2.1.turn hlen (by rw [HM.out]; exact hfd) (by rw [HM.out]; exact hkd)
          rw [List.set_set] at hbt
          have hm0 : m0 < w.heap.size := by
            have := H.out.foot_lt m0 (.inr (.inr (.inr (HM.out ▸ getD_mem (by rw [H.out.msl]; exact hc)))))
            exact this
          exact Lib.hid ⟨hkd.own HB.out.1 (fun k e hf => by have := own_low HB.out.1 e; omega), hbt, Keep.trans HB.out.2.2 hkd⟩
        clear hfs hq hp hfq hfd hkd hfun hcn hfq2 hl2 hL hll hmc
        go_wp2_with (at_builtin; go_loud (refine wpList_append_lies _ rfl _ _ _ rfl w.heap.size 5 i0 _ 1 1 Try.bytes.ht GI.out GZ0.out GZ1.out GZ2.out rfl (by decide) (.slice Ao j co) j _ rfl (by exact HB1.out.1.alloc _) ⟨_, 0, none⟩ 1 1 _ rfl rfl (by exact World.news_of_block (heap_alloc_new _ _)) (by simp [Value.oneCell']) (by omega) (by unfold maxLen; omega) (by omega) (by have := HB1.out.2.2.size; simp; omega) _ rfl ?_); intro g cap w2 hown hgrow hat hlt2; rw [HX.out] at hown; have HB2 := Lib.hid (fetch_next2 H.out HB1.out HN.out.1 hown hgrow); clear hown hgrow hat hlt2)
        exact ⟨⟨K + 1, j + 1, by omega, by go_num, Lib.hid (by have := hKj.out; omega), _, _, rfl, HB2⟩, by simp [intOf]; omega⟩
    · have hb : decide ((K : Int) < (A : Int) + (n : Int)) = false := by simp; omega
      obtain rfl : K = A + n := by omega
      obtain rfl : j = n := by have := hKj.out; omega
      obtain ⟨g, rfl, hln, hcells⟩ := own_bytes HB.out.1 hn0
      have hcv := run_string_mem g 0 co _ hcells
      rw [hln] at hcv
      clear hcells hln
      go_wp2_with fail
      go_ret2
      have hbb := HB.out.2.1
      simp only [List.getD_eq_getElem?_getD, List.getElem?_eq_getElem hc, Option.getD_some] at hbb
      exact ⟨rfl, hbb, HB.out.2.2⟩
end Go.Proofs.Ytnhajhejkecihaa
