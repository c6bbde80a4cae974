/-
  Plain laws, no program in sight: how a source of bytes in pieces is read, and up to which byte it comes.
-/
namespace Go.Proofs.YthigfpaajbejdaaGreatDoor

/-- Up to which byte a source comes, and what stands there (1: the end; 14: nothing comes; 16: it is broken). -/
def limGo (len : Nat) (broken : Int) : List Int → Nat → Nat → Nat × Nat
  | [], _, _ => if 0 ≤ broken ∧ broken ≤ len then (broken.toNat, 16) else (len, 1)
  | p :: ps, at_, empty =>
    if 0 ≤ broken ∧ broken ≤ at_ then (at_, 16)
    else if p ≤ 0 then (if 8 < empty + 1 then (at_, 14) else limGo len broken ps at_ (empty + 1))
    else if (len : Int) - at_ < p then (if 0 ≤ broken ∧ broken ≤ len then (broken.toNat, 16) else (len, 1))
    else limGo len broken ps (if 0 ≤ broken ∧ broken < at_ + p then broken.toNat else at_ + p.toNat) 0

/-- A source, as the statements have it: its text, its pieces, the byte at which it is broken. -/
structure Cfg where
  text : ByteArray
  ps : List Int
  broken : Int
def Cfg.len (c : Cfg) : Nat := c.text.size
def Cfg.lim (c : Cfg) : Nat × Nat := limGo c.len c.broken c.ps 0 0

/-- What one read of 512 bytes gives: so many bytes; the fault's number (0: none); the source's fields behind it. -/
structure Got where
  m : Nat
  e : Nat
  pos : Nat
  left : Nat
  k : Nat
def Cfg.left1 (c : Cfg) (left k : Nat) : Nat := if left = 0 then (if k < c.ps.length then (max 0 (c.ps.getD k 0)).toNat else 1099511627776) else left
def Cfg.k1 (c : Cfg) (left k : Nat) : Nat := if left = 0 then (if k < c.ps.length then k + 1 else k) else k
def Cfg.take (c : Cfg) (pos left : Nat) : Nat := if 0 ≤ c.broken then min (min (min 512 left) (c.len - pos)) (c.broken.toNat - pos) else min (min 512 left) (c.len - pos)
def Cfg.read (c : Cfg) (pos left k : Nat) : Got :=
  if 0 ≤ c.broken ∧ c.broken ≤ pos then ⟨0, 16, pos, left, k⟩
  else if c.left1 left k = 0 then ⟨0, 0, pos, 0, c.k1 left k⟩
  else if c.take pos (c.left1 left k) = 0 then ⟨0, 1, pos, c.left1 left k, c.k1 left k⟩
  else ⟨c.take pos (c.left1 left k), 0, pos + c.take pos (c.left1 left k), c.left1 left k - c.take pos (c.left1 left k), c.k1 left k⟩

/-- Where the source comes to, from its fields on. -/
def Cfg.from_ (c : Cfg) (pos left k empty : Nat) : Nat × Nat :=
  if left = 0 then limGo c.len c.broken (c.ps.drop k) pos empty else limGo c.len c.broken ((left : Int) :: c.ps.drop k) pos 0
/-- Its fields are sound. -/
def Cfg.ok (c : Cfg) (pos : Nat) : Prop := c.len ≤ 1048576 ∧ pos ≤ c.len ∧ (0 ≤ c.broken → (pos : Int) ≤ c.broken)

theorem Cfg.from_left1 (c : Cfg) (pos left k empty : Nat) (hok : c.ok pos) (hb : ¬ (0 ≤ c.broken ∧ c.broken ≤ pos)) (h1 : c.left1 left k ≠ 0) :
    c.from_ pos left k empty = limGo c.len c.broken ((c.left1 left k : Int) :: c.ps.drop (c.k1 left k)) pos 0 := by
  obtain ⟨h20, hpl, _⟩ := hok
  by_cases hl : left = 0
  · subst hl
    by_cases hk : k < c.ps.length
    · have e1 : c.left1 0 k = (max 0 (c.ps.getD k 0)).toNat := by simp [left1, hk]
      have e2 : c.k1 0 k = k + 1 := by simp [k1, hk]
      have hg : c.ps.getD k 0 = c.ps[k] := by simp [hk]
      have hp : 0 < c.ps[k] := by rw [e1, hg] at h1; omega
      have e3 : ((max 0 (c.ps.getD k 0)).toNat : Int) = c.ps[k] := by rw [hg]; omega
      rw [e1, e2, e3]
      unfold from_
      rw [if_pos rfl, List.drop_eq_getElem_cons hk]
      simp only [limGo]
      simp only [if_neg hb, if_neg (show ¬ c.ps[k] ≤ 0 by omega)]
    · have e1 : c.left1 0 k = 1099511627776 := by simp [left1, hk]
      have e2 : c.k1 0 k = k := by simp [k1, hk]
      rw [e1, e2]
      unfold from_
      rw [if_pos rfl, List.drop_eq_nil_of_le (by omega)]
      simp only [limGo]
      rw [if_neg hb, if_neg (show ¬ ((1099511627776 : Nat) : Int) ≤ 0 by omega), if_pos (show (c.len : Int) - pos < ((1099511627776 : Nat) : Int) by omega)]
  · have e1 : c.left1 left k = left := by simp [left1, hl]
    have e2 : c.k1 left k = k := by simp [k1, hl]
    rw [e1, e2]
    unfold from_
    rw [if_neg hl]

theorem Cfg.read_stop (c : Cfg) (pos left k empty : Nat) (hok : c.ok pos) (h : (c.read pos left k).e ≠ 0) :
    (c.read pos left k).m = 0 ∧ (c.read pos left k).pos = pos ∧ c.from_ pos left k empty = (pos, (c.read pos left k).e) := by
  have hok' := hok
  obtain ⟨h20, hpl, hbr⟩ := hok'
  by_cases hb : 0 ≤ c.broken ∧ c.broken ≤ pos
  · have hr : c.read pos left k = ⟨0, 16, pos, left, k⟩ := by simp [read, hb]
    rw [hr]
    refine ⟨rfl, rfl, ?_⟩
    unfold from_
    have hnil : limGo c.len c.broken [] pos empty = (pos, 16) := by
      simp only [limGo]; rw [if_pos ⟨hb.1, by omega⟩]; have := hbr hb.1; congr 1; omega
    split
    · cases c.ps.drop k with
      | nil => exact hnil
      | cons p r => simp only [limGo]; rw [if_pos hb]
    · simp only [limGo]; rw [if_pos hb]
  · by_cases h1 : c.left1 left k = 0
    · simp [read, hb, h1] at h
    · by_cases ht : c.take pos (c.left1 left k) = 0
      · have hr : c.read pos left k = ⟨0, 1, pos, c.left1 left k, c.k1 left k⟩ := by simp [read, hb, h1, ht]
        rw [hr]
        refine ⟨rfl, rfl, ?_⟩
        rw [c.from_left1 pos left k empty hok hb h1]
        have hp : c.len = pos := by
          unfold take at ht
          split at ht <;> omega
        simp only [limGo]
        rw [if_neg hb, if_neg (by omega), if_pos (by omega), if_neg (by omega), hp]
      · simp [read, hb, h1, ht] at h

theorem Cfg.read_none (c : Cfg) (pos left k empty : Nat) (hm : (c.read pos left k).m = 0) (h : (c.read pos left k).e = 0) :
    (c.read pos left k).pos = pos ∧ (c.read pos left k).left = 0 ∧
      c.from_ pos left k empty = if 8 < empty + 1 then (pos, 14) else c.from_ pos 0 (c.read pos left k).k (empty + 1) := by
  by_cases hb : 0 ≤ c.broken ∧ c.broken ≤ pos
  · simp [read, hb] at h
  · by_cases h1 : c.left1 left k = 0
    · have hr : c.read pos left k = ⟨0, 0, pos, 0, c.k1 left k⟩ := by simp [read, hb, h1]
      rw [hr]
      refine ⟨rfl, rfl, ?_⟩
      have hl : left = 0 := by
        rcases Nat.eq_zero_or_pos left with h0 | h0
        · exact h0
        · unfold left1 at h1; rw [if_neg (by omega)] at h1; omega
      subst hl
      have hk : k < c.ps.length := by
        rcases Nat.lt_or_ge k c.ps.length with h0 | h0
        · exact h0
        · unfold left1 at h1; rw [if_pos rfl, if_neg (by omega)] at h1; omega
      have hg : c.ps.getD k 0 = c.ps[k] := by simp [hk]
      have e1 : c.left1 0 k = (max 0 (c.ps.getD k 0)).toNat := by simp [left1, hk]
      have e2 : c.k1 0 k = k + 1 := by simp [k1, hk]
      have hp : c.ps[k] ≤ 0 := by rw [e1, hg] at h1; omega
      rw [e2]
      show c.from_ pos 0 k empty = if 8 < empty + 1 then (pos, 14) else c.from_ pos 0 (k + 1) (empty + 1)
      unfold from_
      simp only [if_true]
      rw [List.drop_eq_getElem_cons hk]
      simp only [limGo]
      rw [if_neg hb, if_pos hp]
    · by_cases ht : c.take pos (c.left1 left k) = 0
      · simp [read, hb, h1, ht] at h
      · simp [read, hb, h1, ht] at hm

theorem Cfg.read_some (c : Cfg) (pos left k empty : Nat) (hok : c.ok pos) (hm : (c.read pos left k).m ≠ 0) :
    (c.read pos left k).e = 0 ∧ (c.read pos left k).pos = pos + (c.read pos left k).m ∧ c.ok (pos + (c.read pos left k).m) ∧ (c.read pos left k).m ≤ 512 ∧
      c.from_ pos left k empty = c.from_ (c.read pos left k).pos (c.read pos left k).left (c.read pos left k).k 0 := by
  have hok' := hok
  obtain ⟨h20, hpl, hbr⟩ := hok'
  by_cases hb : 0 ≤ c.broken ∧ c.broken ≤ pos
  · simp [read, hb] at hm
  · by_cases h1 : c.left1 left k = 0
    · simp [read, hb, h1] at hm
    · by_cases ht : c.take pos (c.left1 left k) = 0
      · simp [read, hb, h1, ht] at hm
      · have hr : c.read pos left k = ⟨c.take pos (c.left1 left k), 0, pos + c.take pos (c.left1 left k), c.left1 left k - c.take pos (c.left1 left k), c.k1 left k⟩ := by
          simp [read, hb, h1, ht]
        rw [hr]
        rw [c.from_left1 pos left k empty hok hb h1]
        generalize c.left1 left k = l at *
        generalize hm' : c.take pos l = m at *
        generalize c.k1 left k = k'
        have hm512 : m ≤ 512 ∧ m ≤ l ∧ m ≤ c.len - pos ∧ (0 ≤ c.broken → m ≤ c.broken.toNat - pos) := by
          unfold take at hm'
          split at hm' <;> refine ⟨by omega, by omega, by omega, fun _ => by omega⟩
        obtain ⟨m1, m2, m3, m4⟩ := hm512
        refine ⟨rfl, rfl, ⟨h20, (show pos + m ≤ c.len by omega), fun h => (show ((pos + m : Nat) : Int) ≤ c.broken by have := m4 h; have := hbr h; omega)⟩, m1, ?_⟩
        show limGo c.len c.broken ((l : Int) :: c.ps.drop k') pos 0 = c.from_ (pos + m) (l - m) k' 0
        unfold from_
        by_cases hlm : l - m = 0
        · rw [if_pos hlm]
          have : l = m := by omega
          subst this
          simp only [limGo]
          rw [if_neg hb, if_neg (by omega), if_neg (by omega)]
          congr 1
          split
          · rename_i hh; have := m4 hh.1; omega
          · omega
        · rw [if_neg hlm]
          simp only [limGo]
          rw [if_neg hb, if_neg (show ¬ (l : Int) ≤ 0 by omega)]
          by_cases hb2 : 0 ≤ c.broken ∧ c.broken ≤ ((pos + m : Nat) : Int)
          · have e : c.broken.toNat = pos + m := by have := m4 hb2.1; omega
            rw [if_pos hb2]
            split
            · rw [if_pos ⟨hb2.1, by omega⟩, e]
            · rw [if_pos ⟨hb2.1, by omega⟩, e]
              cases c.ps.drop k' with
              | nil => simp only [limGo]; rw [if_pos ⟨hb2.1, by omega⟩, e]
              | cons p r => simp only [limGo]; rw [if_pos ⟨hb2.1, by omega⟩]
          · rw [if_neg hb2, if_neg (show ¬ ((l - m : Nat) : Int) ≤ 0 by omega)]
            by_cases hg : (c.len : Int) - pos < l
            · rw [if_pos hg, if_pos (show (c.len : Int) - ((pos + m : Nat) : Int) < ((l - m : Nat) : Int) by omega)]
            · rw [if_neg hg, if_neg (show ¬ (c.len : Int) - ((pos + m : Nat) : Int) < ((l - m : Nat) : Int) by omega)]
              congr 1
              by_cases hz : 0 ≤ c.broken ∧ c.broken < (pos : Int) + (l : Int)
              · rw [if_pos hz, if_pos (by omega)]
              · rw [if_neg hz, if_neg (by omega)]; omega
end Go.Proofs.YthigfpaajbejdaaGreatDoor
