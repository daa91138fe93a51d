/- Plain laws on a journal: what Append does where the power stays, and where it fails. -/
import Derived.Test.YtbmmcdnmbdoglaaJ8
namespace Go.Proofs.Ytbmmcdnmbdoglaa

def sum4 : List Bytes → Nat
  | [] => 0
  | r :: l => r.length + 4 + sum4 l
theorem sum4_le : ∀ l : List Bytes, sum4 l ≤ bytesOf l ∧ l.length * 16 ≤ bytesOf l
  | [] => by simp [sum4, bytesOf]
  | r :: l => by
    have := sum4_le l
    simp only [sum4, bytesOf, List.length_cons]
    omega
theorem recsF_sum : ∀ (f : Nat) (c : Bytes) (pos stop : Nat) (l : List Bytes), recsF f c pos stop = some l → pos ≤ stop → (pos = stop ∨ stop ≤ c.length) → stop = pos + sum4 l
  | 0, c, pos, stop, l, h, hp, hc => by
    unfold recsF at h
    split at h
    · cases h
    · obtain rfl := Option.some.inj h
      simp [sum4]; omega
  | f + 1, c, pos, stop, l, h, hp, hc => by
    unfold recsF at h
    split at h
    · split at h
      · cases h
      · obtain ⟨n, hn⟩ : ∃ n, natL (readL c (pos : Int) 4) 4 = n := ⟨_, rfl⟩
        rw [hn] at h
        cases hx : recsF f c (pos + 4 + n) stop with
        | none => rw [hx] at h; cases h
        | some l' =>
          rw [hx] at h
          obtain rfl := Option.some.inj h
          have hlen : (readL c ((pos + 4 : Nat) : Int) (n : Int)).length = n := by
            rw [readL_whole _ _ _ (by omega)]
            simp; omega
          have := recsF_sum f c (pos + 4 + n) stop l' hx (by omega) (by omega)
          simp only [sum4, hlen]
          omega
    · obtain rfl := Option.some.inj h
      simp [sum4]; omega
theorem open_sum {c : Bytes} {E : Nat} {l : List Bytes} (h : openL c = some (E, l)) : E = 64 + sum4 l ∧ E ≤ 64 + 16777216 := by
  obtain ⟨n, rfl, _, h1, h2, h3⟩ := open_some h
  exact ⟨recsF_sum n c 64 (64 + n) l h3 (by omega) (by omega), by omega⟩

theorem head_right {c : Bytes} (hb : ¬ (signed (natL (readL c 0 8) 8) < 0 ∨ 16777216 < signed (natL (readL c 0 8) 8) ∨ (0 < signed (natL (readL c 0 8) 8) ∧ (c.length : Int) < 64 + signed (natL (readL c 0 8) 8)))) :
    ∃ m, natL (readL c 0 8) 8 = m ∧ m ≤ 16777216 ∧ (m = 0 ∨ 0 < m ∧ 64 + m ≤ c.length) := by
  obtain ⟨u, hu⟩ : ∃ u, natL (readL c 0 8) 8 = u := ⟨_, rfl⟩
  rw [hu] at hb ⊢
  refine ⟨u, rfl, ?_⟩
  have hlt : u < 18446744073709551616 := by rw [← hu]; exact natL_lt _ 8
  have hs : signed u = (u : Int) := by
    unfold signed at hb ⊢
    split
    · rfl
    · rename_i h
      rw [if_neg h] at hb
      omega
  rw [hs] at hb
  omega
/-- A journal that is as it should be. -/
structure Good (d : DS) (j : JS) (l : List Bytes) : Prop where
  syn : d.synced = d.now
  prt : d.parts = []
  opn : openL d.now = some (j.stop, l)
  many : j.many = l.length
  bytes : j.bytes = bytesOf l
  fine : j.broken = false
theorem Good.stop {d : DS} {j : JS} {l : List Bytes} (h : Good d j l) : 64 ≤ j.stop ∧ j.stop ≤ 16777216 + 64 ∧ j.stop ≤ 64 + j.bytes ∧ j.many * 16 ≤ j.bytes := by
  have h1 := open_sum h.opn
  have h2 := sum4_le l
  have h3 := h.bytes
  have h4 := h.many
  omega
theorem off_of {d : DS} (h : d.failing = false) : d.off = false := by unfold DS.off; rw [h]; rfl
theorem doWrite_on {d : DS} {off : Nat} {s : Bytes} (h1 : off + s.length ≤ 16777216) (ho : d.off = false) : d.doWrite (off : Int) s = (0, d.write off s) := by
  unfold DS.doWrite
  rw [if_pos (by unfold fitsAt; simp; omega), ho]
  rfl
theorem doWrite_off {d : DS} {off : Nat} {s : Bytes} (h1 : off + s.length ≤ 16777216) (ho : d.off = true) : d.doWrite (off : Int) s = (70, d) := by
  unfold DS.doWrite
  rw [if_pos (by unfold fitsAt; simp; omega), ho]
  rfl
theorem doSync_off {d : DS} (ho : d.off = true) : d.doSync = (70, d) := by
  unfold DS.doSync
  rw [ho]
  rfl
/-- The contents behind Append's two writes. -/
def c1L (c : Bytes) (E : Nat) (x : Bytes) : Bytes := putL c E (numL x.length 4 ++ x)
def c2L (c : Bytes) (E : Nat) (x : Bytes) : Bytes := putL (c1L c E x) 0 (numL (E + 4 + x.length - 64) 8)
theorem open_c1 {c : Bytes} {E : Nat} {l : List Bytes} (h : openL c = some (E, l)) (x : Bytes) : openL (c1L c E x) = some (E, l) := open_first h _
theorem open_c2 {c : Bytes} {E : Nat} {l : List Bytes} (h : openL c = some (E, l)) (x : Bytes) (hx : x.length < 4294967296) (hfit : E + 4 + x.length ≤ 64 + 16777216) : openL (c2L c E x) = some (E + 4 + x.length, l ++ [x]) := open_second h x hx hfit

/-- Append while the power is on. -/
theorem append_ok {d : DS} {j : JS} {l : List Bytes} (h : Good d j l) (hp : d.failing = false) (x : Bytes) (hx : j.bytes + x.length + 16 + 256 ≤ 16777216) :
    ∃ d' j', appendJ d j x = (0, d', j') ∧ Good d' j' (l ++ [x]) ∧ d'.failing = false ∧ d'.calls = d.calls + 4 := by
  have hs := h.stop
  obtain ⟨nx, hnx⟩ : ∃ nx, j.stop + 4 + x.length = nx := ⟨_, rfl⟩
  have e1 : d.doWrite j.stop (numL x.length 4 ++ x) = (0, d.write j.stop (numL x.length 4 ++ x)) := doWrite_on (by rw [List.length_append, numL_length]; omega) (off_of hp)
  have e2 : (d.write j.stop (numL x.length 4 ++ x)).doSync = (0, (d.write j.stop (numL x.length 4 ++ x)).sync) := doSync_on (off_of hp)
  have e3 : (d.write j.stop (numL x.length 4 ++ x)).sync.doWrite 0 (numL (nx - 64) 8) = (0, (d.write j.stop (numL x.length 4 ++ x)).sync.write 0 (numL (nx - 64) 8)) := doWrite_on (off := 0) (by rw [numL_length]; omega) (off_of hp)
  have e4 : ((d.write j.stop (numL x.length 4 ++ x)).sync.write 0 (numL (nx - 64) 8)).doSync = (0, ((d.write j.stop (numL x.length 4 ++ x)).sync.write 0 (numL (nx - 64) 8)).sync) := doSync_on (off_of hp)
  have es : stepsJ d j.stop x nx = (0, ((d.write j.stop (numL x.length 4 ++ x)).sync.write 0 (numL (nx - 64) 8)).sync) := by
    unfold stepsJ
    rw [e1, if_pos rfl, e2, if_pos rfl, e3, if_pos rfl, e4]
  refine ⟨((d.write j.stop (numL x.length 4 ++ x)).sync.write 0 (numL (nx - 64) 8)).sync, ⟨j.many + 1, j.bytes + x.length + 16, nx, false⟩, ?_, ⟨rfl, rfl, ?_, ?_, ?_, rfl⟩, hp, ?_⟩
  · unfold appendJ
    rw [h.fine, if_neg (by simp), if_neg (by omega), hnx, es, if_pos rfl]
  · show openL (putL (putL d.now j.stop (numL x.length 4 ++ x)) 0 (numL (nx - 64) 8)) = some (nx, l ++ [x])
    rw [← hnx]
    exact open_c2 h.opn x (by omega) (by omega)
  · show j.many + 1 = (l ++ [x]).length
    rw [h.many]; simp
  · show j.bytes + x.length + 16 = bytesOf (l ++ [x])
    rw [h.bytes, bytesOf_append]; simp [bytesOf]; omega
  · show d.calls + 1 + 1 + 1 + 1 = d.calls + 4
    omega
theorem good_crash {d : DS} {j : JS} {l : List Bytes} (h : Good d j l) (ns : List Int) : Good (d.crash ns) j l := by
  have e : (d.crash ns).now = d.now := by
    show crashL ns 0 d.synced d.parts = d.now
    rw [h.prt, h.syn]; rfl
  exact ⟨rfl, rfl, by rw [e]; exact h.opn, h.many, h.bytes, h.fine⟩
theorem good_sync {d : DS} {j : JS} {l : List Bytes} (h : Good d j l) : Good d.sync j l := ⟨rfl, rfl, h.opn, h.many, h.bytes, h.fine⟩
theorem good_open {d : DS} {E : Nat} {l : List Bytes} (h : openL d.now = some (E, l)) : Good d.sync ⟨l.length, bytesOf l, E, false⟩ l := ⟨rfl, rfl, h, rfl, rfl, rfl⟩
end Go.Proofs.Ytbmmcdnmbdoglaa
