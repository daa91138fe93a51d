/- Install: the board in memory; inside, Write. -/
import Derived.Test.YtnhajhejkecihaaIM
import Derived.Test.YtnhajhejkecihaaIP
import Derived.Lib.BufferWrite
namespace Go.Proofs.Ytnhajhejkecihaa
open Go.RowKit Go.Lib
set_option linter.unusedVariables false

theorem Try.bytes : OneTy Try.prog 46 5 (.int .u8 0) 1 := ⟨Try.underlying46, by kernel_rfl, rfl⟩
/-- Where a board lies. -/
structure BR where
  mb : Nat
  mc : Nat
  cb : Nat
  cc : Nat
  ms : List Nat
abbrev Cache := Int → Option Bytes
/-- How many lines a cache has. -/
def cnt (f : Cache) : Nat := (List.range 256).countP fun k : Nat => (f (k : Int)).isSome
theorem cnt_le (f : Cache) : cnt f ≤ 256 := by
  have := List.countP_le_length (p := fun k : Nat => (f (k : Int)).isSome) (l := List.range 256)
  simpa [cnt] using this
theorem countP_one {p p' : Nat → Bool} {q : Nat} : ∀ l : List Nat, l.Nodup → (∀ k, k ≠ q → p' k = p k) → (q ∈ l → l.countP p' + (p q).toNat = l.countP p + (p' q).toNat) ∧ (q ∉ l → l.countP p' = l.countP p)
  | [], _, _ => ⟨fun h => by simp at h, fun _ => rfl⟩
  | x :: l, hn, hp => by
    have hx := (List.nodup_cons.1 hn).1
    have ih := countP_one l (List.nodup_cons.1 hn).2 hp
    rw [List.countP_cons, List.countP_cons]
    by_cases hxq : x = q
    · subst hxq
      have := ih.2 hx
      refine ⟨fun _ => ?_, fun h => absurd List.mem_cons_self h⟩
      rw [this]
      cases p x <;> cases p' x <;> simp
    · rw [hp x hxq]
      refine ⟨fun h => ?_, fun h => ?_⟩
      · have := ih.1 ((List.mem_cons.1 h).resolve_left (fun e => hxq e.symm))
        omega
      · rw [ih.2 (fun h' => h (List.mem_cons_of_mem _ h'))]
theorem cnt_one {f f' : Cache} {q : Nat} (hq : q < 256) (h : ∀ k : Int, k ≠ q → f' k = f k) : cnt f' + (f (q : Int)).isSome.toNat = cnt f + (f' (q : Int)).isSome.toNat :=
  (countP_one (p := fun k => (f (k : Int)).isSome) (p' := fun k => (f' (k : Int)).isSome) (q := q) (List.range 256) List.nodup_range (fun k hk => by rw [h k (by omega)])).1 (List.mem_range.2 hq)
structure IsBoard (w : World) (b : Nat) (r : BR) (M : Bytes) (fs : List Cache) : Prop where
  hdr : w.heap[b]? = some (.cells #[.slice (some ⟨r.mb, 0, none⟩) 4096 r.mc, .slice (some ⟨r.cb, 0, none⟩) fs.length r.cc] 78 (0, 0))
  mem : w.ownsRow 0 5 1 (.slice (some ⟨r.mb, 0, none⟩) 4096 r.mc) 4096 (b8 M)
  caches : w.ownsRow 0 79 1 (.slice (some ⟨r.cb, 0, none⟩) fs.length r.cc) fs.length (r.ms.map fun m => .map (some m))
  maps : ∀ i, i < fs.length → FS Try.prog 3 9 w (r.ms.getD i 0) (fs.getD i (fun _ => none)) (cnt (fs.getD i (fun _ => none)))
  nodup : r.ms.Nodup
  len : M.length = 4096
theorem IsBoard.msl {w : World} {b : Nat} {r : BR} {M : Bytes} {fs : List Cache} (h : IsBoard w b r M fs) : r.ms.length = fs.length := by
  have := h.caches.1
  simpa using this
/-- The blocks of a board. -/
def BR.foot (r : BR) (b k : Nat) : Prop := k = b ∨ k = r.mb ∨ k = r.cb ∨ k ∈ r.ms
theorem IsBoard.keep {w w' : World} {b : Nat} {r : BR} {M : Bytes} {fs : List Cache} {F : Nat → Prop} (h : IsBoard w b r M fs) (hk : Keep F w w') (hF : ∀ k, r.foot b k → ¬ F k) : IsBoard w' b r M fs :=
  ⟨(hk.block b (blk_lt h.hdr) (hF b (.inl rfl))).trans h.hdr, hk.own h.mem (fun k e => by simp [Value.ownBlock] at e; subst e; exact hF _ (.inr (.inl rfl))), hk.own h.caches (fun k e => by simp [Value.ownBlock] at e; subst e; exact hF _ (.inr (.inr (.inl rfl)))),
    fun i hi => (h.maps i hi).keep hk (hF _ (.inr (.inr (.inr (getD_mem (by rw [h.msl]; exact hi)))))), h.nodup, h.len⟩
theorem IsBoard.foot_lt {w : World} {b : Nat} {r : BR} {M : Bytes} {fs : List Cache} (h : IsBoard w b r M fs) : ∀ k, r.foot b k → k < w.heap.size := by
  rintro k (rfl | rfl | rfl | hk)
  · exact blk_lt h.hdr
  · exact own_lt h.mem _ rfl
  · exact own_lt h.caches _ rfl
  · obtain ⟨i, hi, rfl⟩ := List.getElem_of_mem hk
    have := (h.maps i (by rw [← h.msl]; exact hi)).lt
    rwa [List.getD_eq_getElem?_getD, List.getElem?_eq_getElem hi] at this
theorem IsBoard.c0 {w : World} {b : Nat} {r : BR} {M : Bytes} {fs : List Cache} (h : IsBoard w b r M fs) : w.cell? ⟨b, 0, none⟩ = some (.slice (some ⟨r.mb, 0, none⟩) 4096 r.mc) := (blk_cell h.hdr 0).trans rfl
theorem IsBoard.c1 {w : World} {b : Nat} {r : BR} {M : Bytes} {fs : List Cache} (h : IsBoard w b r M fs) : w.cell? ⟨b, 1, none⟩ = some (.slice (some ⟨r.cb, 0, none⟩) fs.length r.cc) := (blk_cell h.hdr 1).trans rfl
theorem IsBoard.map {w : World} {b : Nat} {r : BR} {M : Bytes} {fs : List Cache} (h : IsBoard w b r M fs) {c : Nat} (hc : c < fs.length) : w.cell? ⟨r.cb, c, none⟩ = some (.map (some (r.ms.getD c 0))) := by
  rcases h.caches.2 with ⟨h1, _⟩ | ⟨g, cap, cur, h1, _, h3, _, _, _, h7⟩
  · cases h1
  · injection h1 with h1 _ _
    injection h1 with h1
    injection h1 with h1
    subst h1
    have hm : c < r.ms.length := by rw [h.msl]; exact hc
    have h8 : (cur.toList.take (fs.length * 1))[c]? = (r.ms.map fun m => Value.map (some m))[c]? := by rw [h7]
    rw [List.getElem?_take_of_lt (by omega), List.getElem?_map, List.getElem?_eq_getElem hm] at h8
    rw [blk_cell h3, List.getD_eq_getElem?_getD, List.getElem?_eq_getElem hm]
    simpa using h8

set_option maxRecDepth 100000 in
set_option maxHeartbeats 2000000 in
theorem inside_any {w : World} {b : Nat} {r : BR} {M : Bytes} {fs : List Cache} (h : IsBoard w b r M fs) (addr n : Nat) (hn : addr + n ≤ 4096) :
    Calls Try.prog 32 #[.pointer (some ⟨b, 0, none⟩), .int .i64 addr, .int .i64 n] w fun e w' => e = .returned (.bool true) ∧ w = w' := by
  have c0 := h.c0
  have g1 : decide ((addr : Int) ≤ 4096) = true := by simp; omega
  have g2 : decide ((n : Int) ≤ 4096 - (addr : Int)) = true := by simp; omega
  have g3 : IntKind.i64.wrap (4096 - (addr : Int)) = 4096 - (addr : Int) := by rw [IntKind.wrap_i64]; omega
  have hne : (binOp .neq 46 (.slice (some ⟨r.mb, 0, none⟩) 4096 r.mc) (.slice none 0 0)).run Try.prog w = .ok (.bool true) w := by kernel_rfl
  clear h
  go_enter Try.func32, Try.ntmps32
  go_wp2_with fail
  go_ret
  exact ⟨rfl, rfl⟩
theorem fs_map {w : World} {b c : Nat} {f : Cache} (h : FS Try.prog 3 9 w b f c) : ∃ es clock, w.heap[b]? = some (.map es clock) := by
  obtain ⟨D, ⟨es, clock, hb, _⟩, _⟩ := h
  exact ⟨es, clock, hb⟩
theorem IsBoard.mem_map {w : World} {b : Nat} {r : BR} {M : Bytes} {fs : List Cache} (h : IsBoard w b r M fs) {k : Nat} (hk : k ∈ r.ms) : ∃ es clock, w.heap[k]? = some (.map es clock) := by
  obtain ⟨i, hi, rfl⟩ := List.getElem_of_mem hk
  have := fs_map (h.maps i (by rw [← h.msl]; exact hi))
  rwa [List.getD_eq_getElem?_getD, List.getElem?_eq_getElem hi] at this
theorem IsBoard.apart {w : World} {b : Nat} {r : BR} {M : Bytes} {fs : List Cache} (h : IsBoard w b r M fs) : (b ≠ r.mb ∧ b ≠ r.cb ∧ r.cb ≠ r.mb) ∧ (r.mb ∉ r.ms ∧ b ∉ r.ms ∧ r.cb ∉ r.ms) := by
  obtain ⟨c1, h1⟩ := own_type h.mem (k := r.mb) rfl
  obtain ⟨c2, h2⟩ := own_type h.caches (k := r.cb) rfl
  refine ⟨⟨fun e => ?_, fun e => ?_, fun e => ?_⟩, fun hk => ?_, fun hk => ?_, fun hk => ?_⟩
  · exact blk_own_ne h.hdr h.mem (k := r.mb) rfl (by decide) e.symm
  · exact blk_own_ne h.hdr h.caches (k := r.cb) rfl (by decide) e.symm
  · rw [e, h1] at h2
    injection h2 with h2
    injection h2 with _ h4
    exact absurd h4 (by decide)
  · obtain ⟨es, ck, hm⟩ := h.mem_map hk
    rw [h1] at hm
    cases hm
  · obtain ⟨es, ck, hm⟩ := h.mem_map hk
    rw [h.hdr] at hm
    cases hm
  · obtain ⟨es, ck, hm⟩ := h.mem_map hk
    rw [h2] at hm
    cases hm
/-- A store into the memory's row. -/
theorem IsBoard.wrote {w : World} {b : Nat} {r : BR} {M : Bytes} {fs : List Cache} {cur : Array Value} (h : IsBoard w b r M fs) (hcur : w.heap[r.mb]? = some (.cells cur 5 (0, 0))) (hcs : cur.size = r.mc) (hmc : 4096 ≤ r.mc ∧ r.mc ≤ maxLen) (htk : cur.toList.take 4096 = b8 M)
    (a : Nat) (s : Bytes) (hn : a + s.length ≤ 4096) {new : Array Value} (hnew : new.toList = cur.toList.take a ++ (b8 s ++ cur.toList.drop (a + s.length))) :
    IsBoard (w.setRow r.mb new) b r (M.take a ++ (s ++ M.drop (a + s.length))) fs ∧ Keep (fun k => k = r.mb) w (w.setRow r.mb new) := by
  have hk : Keep (fun k => k = r.mb) w (w.setRow r.mb new) := ⟨rfl, rfl, rfl, by simp, fun k _ hk => setRow_other w r.mb k _ hk⟩
  obtain ⟨⟨n1, n2, n3⟩, n4, n5, n6⟩ := h.apart
  have hlen : (M.take a ++ (s ++ M.drop (a + s.length))).length = 4096 := by have := h.len; simp; omega
  have hcl : cur.toList.length = r.mc := by simpa using hcs
  refine ⟨⟨(hk.block b (blk_lt h.hdr) n1).trans h.hdr, ⟨by rw [b8_length, hlen], .inr ⟨r.mb, r.mc, new, rfl, Nat.zero_le _, setRow_heap w r.mb cur _ _ _ hcur, hmc.1, hmc.2, ?_, ?_⟩⟩,
    hk.own h.caches (fun k e => by simp [Value.ownBlock] at e; subst e; exact n3), fun i hi => (h.maps i hi).keep hk (fun e => n4 (e ▸ getD_mem (by rw [h.msl]; exact hi))), h.nodup, hlen⟩, hk⟩
  · have : new.toList.length = r.mc := by rw [hnew]; simp only [List.length_append, List.length_take, List.length_drop, b8_length]; omega
    simpa using this
  · rw [hnew, Nat.mul_one]
    have e1 : cur.toList.take a = b8 (M.take a) := by rw [← b8_take, ← htk, List.take_take, Nat.min_eq_left (by omega)]
    have e2 : (cur.toList.drop (a + s.length)).take (4096 - (a + s.length)) = b8 (M.drop (a + s.length)) := by rw [← b8_drop, ← htk, List.drop_take]
    have l1 : (b8 (M.take a)).length = a := by rw [b8_length]; have := h.len; simp; omega
    rw [e1, b8_append, b8_append, ← e2, take_three _ _ _ _ (by rw [l1, b8_length]; omega), l1, b8_length, Nat.sub_sub]
theorem write_lens {M s : Bytes} {a : Nat} (h1 : M.length = 4096) (h2 : a + s.length ≤ 4096) : (M.take a ++ (s ++ M.drop (a + s.length))).length = 4096 := by simp; omega
set_option maxRecDepth 100000 in
set_option maxHeartbeats 2000000 in
theorem write_any {w : World} {b : Nat} {r : BR} {M : Bytes} {fs : List Cache} (h : IsBoard w b r M fs) (addr : Nat) (s : Bytes) (hs : 0 < s.length) (hn : addr + s.length ≤ 4096) :
    Calls Try.prog 21 #[.pointer (some ⟨b, 0, none⟩), .int .i64 addr, .string (sb s)] w fun e w' => e = .returned (.int .i64 0) ∧ IsBoard w' b r (M.take addr ++ (s ++ M.drop (addr + s.length))) fs ∧ Keep (fun k => k = r.mb) w w' := by
  have H := Lib.hid h
  have c0 := h.c0
  have HI := Lib.hid (inside_any h addr s.length hn)
  have hsz := sb_size s
  clear h
  go_enter Try.func21, Try.ntmps21
  go_wp2_with fail
  ((with_reducible refine HI.out.mono ?_); rintro e w' ⟨rfl, rfl⟩)
  clear HI
  obtain ⟨cur, hcur, hcs, hmc, htk⟩ : ∃ cur, w.heap[r.mb]? = some (.cells cur 5 (0, 0)) ∧ cur.size = r.mc ∧ (4096 ≤ r.mc ∧ r.mc ≤ maxLen) ∧ cur.toList.take 4096 = b8 M := by
    rcases H.out.mem.2 with ⟨h1, _⟩ | ⟨g, cap, cur, h1, _, h3, h4, h5, h6, h7⟩
    · cases h1
    · injection h1 with h1 _ h1c
      injection h1 with h1
      injection h1 with h1
      subst h1 h1c
      exact ⟨cur, h3, by simpa using h6, ⟨h4, h5⟩, by simpa using h7⟩
  have g1 : ((addr : Int) ≤ 4096) := by omega
  have g2 : ¬ r.mc = addr := by omega
  have hcp : ∀ ty, (Builtin.copy_ #[46, 9] ty #[.slice (some ⟨r.mb, addr, none⟩) (4096 - addr) (r.mc - addr), .string (sb s)]).run Try.prog w = .ok (goInt (sb s).size) (w.setRow r.mb (cur.toList.take addr ++ Go.Lib.byteCells (sb s).data.toList ++ cur.toList.drop (addr + (sb s).size)).toArray) :=
    fun ty => run_copy_row_string w _ _ ty 5 r.mb addr _ _ (sb s) cur 5 Try.bytes.ht (by kernel_rfl) hcur (by rw [hsz]; omega) (by rw [hsz]; omega)
  have HC := Lib.hid (And.intro hcur (And.intro hcs (And.intro hmc htk)))
  clear hcur hcs hmc htk
  go_wp2_with fail
  go_ret
  obtain ⟨i1, i2⟩ := H.out.wrote HC.out.1 HC.out.2.1 HC.out.2.2.1 HC.out.2.2.2 addr s hn (new := (cur.toList.take addr ++ (Go.Lib.byteCells (sb s).data.toList ++ cur.toList.drop (addr + s.length))).toArray) rfl
  exact ⟨rfl, i1, i2⟩
end Go.Proofs.Ytnhajhejkecihaa
