/-
  The feed: bytes fetched ahead of those that are taken.
-/
import Derived.Test.YthigfpaajbejdaaGreatDoorSrc
import Derived.Test.YthigfpaajbejdaaGreatDoorErrs
import Derived.Deep.LoopGhost
import Derived.Lib.AppendStr
namespace Go.Proofs.YthigfpaajbejdaaGreatDoor
open Go.RowKit

theorem ps_meth (a : Addr) (w : World) : (Go.method 464 99 (.pointer (some a)) "Read").run Tryz.prog w = .ok (179, .pointer (some a)) w := by kernel_rfl

/-- An error's dynamic type and number. -/
def errT (e : Nat) : Nat := if e = 16 then 202 else 138
def errN (e : Nat) : Int := if e = 16 then 1 else e
theorem errV_zero : errV 0 = .nilIface := rfl
theorem errV_pos {e : Nat} (h : e ≠ 0) : errV e = .iface (errT e) (.int .i64 (errN e)) := by
  unfold errV errT errN
  rw [if_neg h]
  by_cases h' : e = 16
  · rw [if_pos h', if_pos h', if_pos h']
  · rw [if_neg h', if_neg h', if_neg h']
theorem errV_leaf {e : Nat} (_h : e ≠ 0) : ∃ h, Leaf (.iface (errT e) (.int .i64 (errN e))) h := by
  unfold errT errN
  by_cases h' : e = 16
  · rw [if_pos h', if_pos h']; exact ⟨_, leaf_pfailure _⟩
  · rw [if_neg h', if_neg h']; exact ⟨_, leaf_failure _⟩

/-- The feed stands in block fb: the bytes from tk to ft are there; the error behind them; what its source's fields are. -/
structure FeedV (B : Nat) (w : World) (fb bs : Nat) (c : Cfg) (tk ft left k err emp : Nat) (v : Value) (xs : List Value) : Prop where
  blk : Blk w fb #[.iface 99 (.pointer (some ⟨bs, 0, none⟩)), .string (c.text.extract tk ft), errV err, v, .int .i64 tk] 280
  src : SrcI B w bs c ft left k
  own : w.ownsRow B 5 1 v xs.length xs
  above : B ≤ fb
  le : tk ≤ ft
  goes : if err = 0 then c.from_ ft left k emp = c.lim else c.lim = (ft, err)
  errok : err ≤ 16
  few : xs.length ≤ tk

theorem FeedV.ft_le {B : Nat} {w : World} {fb bs : Nat} {c : Cfg} {tk ft left k err emp : Nat} {v : Value} {xs : List Value} (h : FeedV B w fb bs c tk ft left k err emp v xs) : ft ≤ c.len ∧ c.len ≤ 1048576 := ⟨h.src.ok.2.1, h.src.ok.1⟩
theorem FeedV.size {B : Nat} {w : World} {fb bs : Nat} {c : Cfg} {tk ft left k err emp : Nat} {v : Value} {xs : List Value} (h : FeedV B w fb bs c tk ft left k err emp v xs) : (c.text.extract tk ft).size = ft - tk := by
  have h1 := h.ft_le.1
  unfold Cfg.len at h1
  rw [ByteArray.size_extract]
  omega

theorem extract_join (s : ByteArray) (a b c : Nat) (h : a ≤ b) (h' : b ≤ c) : s.extract a b ++ s.extract b c = s.extract a c := by
  apply ByteArray.ext
  rw [ByteArray.data_append, ByteArray.data_extract, ByteArray.data_extract, ByteArray.data_extract, Array.extract_append_extract, Nat.min_eq_left h, Nat.max_eq_right h']
theorem read_le (c : Cfg) (pos left k : Nat) : (c.read pos left k).e ≤ 16 := by
  unfold Cfg.read
  split
  · exact Nat.le_refl 16
  · split
    · exact Nat.zero_le _
    · split
      · exact (by decide : 1 ≤ 16)
      · exact Nat.zero_le _

/-- What 'more' gives. -/
def MorePost (B : Nat) (w : World) (fb bs : Nat) (c : Cfg) (tk ft : Nat) (v : Value) (xs : List Value) (e : Ending) (w' : World) : Prop :=
  Fr [fb, bs] w w' ∧ ((e = .returned (.bool true) ∧ ∃ ft' left k, ft < ft' ∧ FeedV B w' fb bs c tk ft' left k 0 0 v xs) ∨
    (e = .returned (.bool false) ∧ ∃ left k err, err ≠ 0 ∧ FeedV B w' fb bs c tk ft left k err 0 v xs))

/-- A row of one's own stays over a call that does not touch it. -/
theorem own_keep {B : Nat} {w w' : World} {S : List Nat} {v : Value} {n : Nat} {xs : List Value} (h : w.ownsRow B 5 1 v n xs) (hf : Fr S w w') (hS : ∀ g, v.ownBlock = some g → g ∉ S) : w'.ownsRow B 5 1 v n xs := by
  obtain ⟨h1, h2⟩ := h
  refine ⟨h1, ?_⟩
  rcases h2 with h2 | ⟨g, cap, cur, rfl, hb, hg, r⟩
  · exact .inl h2
  · have hlt : g < w.heap.size := (Array.getElem?_eq_some_iff.1 hg).1
    exact .inr ⟨g, cap, cur, rfl, hb, (hf.block g hlt (hS g rfl)).trans hg, r⟩
theorem own_ne {B : Nat} {w : World} {v : Value} {n : Nat} {xs : List Value} (h : w.ownsRow B 5 1 v n xs) {b : Nat} {c : Array Value} {t : TypeId} (hb : Blk w b c t) (ht : t ≠ 5) : v.ownBlock ≠ some b := by
  rcases h.2 with ⟨rfl, _⟩ | ⟨g, cap, cur, rfl, _, hg, _⟩
  · intro e; cases e
  · intro e
    have e' : g = b := Option.some.inj e
    subst e'
    have e2 := Option.some.inj (hb.out.symm.trans hg)
    injection e2 with _ h2 _
    exact ht h2

theorem isEmpty_size (s : ByteArray) : s.toList.isEmpty = decide (s.size = 0) := by
  rw [ByteArray.toList_eq]
  have : s.size = s.data.toList.length := (Array.length_toList (xs := s.data)).symm
  rw [this]
  cases s.data.toList <;> simp
theorem extract_len (s : ByteArray) (a m : Nat) (h : a + m ≤ s.size) : (s.extract a (a + m)).size = m := by
  rw [ByteArray.size_extract]; omega

/-- The source's Read, the piece of text kept apart. -/
theorem read_piece {B : Nat} {w : World} {bs : Nat} {c : Cfg} {pos left k : Nat} (h : SrcI B w bs c pos left k) {m e ps lf kk : Nat} (hr : c.read pos left k = ⟨m, e, ps, lf, kk⟩) :
    Calls Tryz.prog 179 #[.pointer (some ⟨bs, 0, none⟩), .int .i64 512] w fun ev w' => ∃ t : ByteArray, Hid (t = c.text.extract pos (pos + m)) ∧ ev = .returned (.tuple #[.string t, errV e]) ∧ Hid (SrcI B w' bs c ps lf kk) ∧ Fr [bs] w w' := by
  refine (srcRead_any h).mono ?_
  intro ev w' hp
  unfold ReadPost at hp
  rw [hr] at hp
  exact ⟨_, rfl, hp.1, hp.2.1, hp.2.2⟩

theorem read_piece' {B : Nat} {w : World} {bs : Nat} {c : Cfg} {pos left k : Nat} (h : SrcI B w bs c pos left k) {m e ps lf kk : Nat} (hr : c.read pos left k = ⟨m, e, ps, lf, kk⟩) (he : e ≠ 0) :
    Calls Tryz.prog 179 #[.pointer (some ⟨bs, 0, none⟩), .int .i64 512] w fun ev w' => ∃ t : ByteArray, Hid (t = c.text.extract pos (pos + m)) ∧ ev = .returned (.tuple #[.string t, .iface (errT e) (.int .i64 (errN e))]) ∧ Hid (SrcI B w' bs c ps lf kk) ∧ Fr [bs] w w' := by
  rw [← errV_pos he]; exact read_piece h hr
theorem piece_none {t s : ByteArray} {a : Nat} (h : Hid (t = s.extract a (a + 0))) : t.toList.isEmpty = true := by
  rw [isEmpty_size, h.out, ByteArray.size_extract]; exact decide_eq_true (by omega)
theorem piece_le {t s : ByteArray} {a m : Nat} (h : Hid (t = s.extract a (a + m))) : t.size ≤ m := by
  rw [h.out, ByteArray.size_extract]; omega
theorem no_over {c : Cfg} {s t : ByteArray} {a b m : Nat} (h1 : s.size = a - b) (h2 : a ≤ c.len ∧ c.len ≤ 1048576) (h3 : t.size ≤ m) (h4 : m ≤ 512 := by omega) : ¬ 9223372036854775807 < s.size + t.size := by omega

theorem piece_some {t s : ByteArray} {a m : Nat} (h : Hid (t = s.extract a (a + m))) (hm : m ≠ 0) (hs : a + m ≤ s.size) : t.toList.isEmpty = false := by
  rw [isEmpty_size, h.out, extract_len _ _ _ hs]; exact decide_eq_false hm
theorem SrcI.keep {B : Nat} {w w' : World} {bs : Nat} {c : Cfg} {pos left k : Nat} {S : List Nat} (h : SrcI B w bs c pos left k) (hf : Fr S w w') (h1 : bs ∉ S) (h2 : ∀ x ∈ S, B ≤ x) : SrcI B w' bs c pos left k := by
  obtain ⟨a, cap, hb, hp⟩ := h.row
  exact ⟨h.above, ⟨a, cap, hf.blk hb h1, hp.keep hf h2⟩, h.ok, h.fleft, h.fk, h.fb⟩
/-- The feed behind a read. -/
theorem FeedV.next {B : Nat} {w w1 w2 : World} {fb bs : Nat} {c : Cfg} {tk ft left k emp : Nat} {v : Value} {xs : List Value} (h : FeedV B w fb bs c tk ft left k 0 emp v xs)
    {t : ByteArray} {m ps lf kk err emp' : Nat} (ht : Hid (t = c.text.extract ft (ft + m))) (hps : ps = ft + m) (hs : Hid (SrcI B w1 bs c ps lf kk)) (hf1 : Fr [bs] w w1) (hf2 : Fr [fb] w1 w2)
    (hb : Blk w2 fb #[.iface 99 (.pointer (some ⟨bs, 0, none⟩)), .string (c.text.extract tk ft ++ t), errV err, v, .int .i64 tk] 280)
    (hg : if err = 0 then c.from_ ps lf kk emp' = c.lim else c.lim = (ps, err)) (he : err ≤ 16) : FeedV B w2 fb bs c tk ps lf kk err emp' v xs := by
  obtain ⟨a, cap, hbs, _⟩ := h.src.row
  have hne : bs ≠ fb := hbs.ne h.blk (by decide)
  have hle := h.le
  have o1 : w1.ownsRow B 5 1 v xs.length xs := own_keep h.own hf1 (fun g hg => by
    have := own_ne h.own hbs (by decide)
    rw [hg] at this; simpa using this)
  refine ⟨?_, hs.out.keep hf2 (by simpa using hne) (by simpa using h.above), own_keep o1 hf2 (fun g hg => ?_), h.above, by omega, hg, he, h.few⟩
  · rw [ht.out, extract_join _ _ _ _ h.le (by omega)] at hb
    rw [hps]; exact hb
  · have := own_ne h.own h.blk (by decide)
    rw [hg] at this; simpa using this

theorem fr2 (fb : Nat) (w : World) (i j : Nat) (u x : Value) : Fr [fb] w ((w.setCell ⟨fb, i, none⟩ u).setCell ⟨fb, j, none⟩ x) := (Fr.set (a := ⟨fb, i, none⟩) u (List.mem_singleton.2 rfl)).set' (a := ⟨fb, j, none⟩) x (List.mem_singleton.2 rfl)
theorem fr3 (fb : Nat) (w : World) (i j k : Nat) (u x y : Value) : Fr [fb] w (((w.setCell ⟨fb, i, none⟩ u).setCell ⟨fb, j, none⟩ x).setCell ⟨fb, k, none⟩ y) := (fr2 fb w i j u x).set' (a := ⟨fb, k, none⟩) y (List.mem_singleton.2 rfl)
theorem fr_two {fb bs : Nat} {w w1 w2 : World} (h1 : Fr [bs] w w1) (h2 : Fr [fb] w1 w2) : Fr [fb, bs] w w2 :=
  (h1.mono (T := [fb, bs]) (fun k hk => .inl (by rw [List.mem_singleton] at hk; subst hk; exact List.mem_cons_of_mem _ (List.mem_singleton.2 rfl)))).trans h2
    (fun k hk => .inl (by rw [List.mem_singleton] at hk; subst hk; exact List.mem_cons_self ..))
theorem int_succ (n : Nat) : Value.int .i64 ((n : Int) + 1) = .int .i64 ((n + 1 : Nat) : Int) := rfl

set_option maxRecDepth 100000 in
set_option maxHeartbeats 4000000 in
theorem more_go {B : Nat} {w : World} {fb bs : Nat} {c : Cfg} {tk ft left k : Nat} {v : Value} {xs : List Value} (h : FeedV B w fb bs c tk ft left k 0 0 v xs) :
    Calls Tryz.prog 243 #[.pointer (some ⟨fb, 0, none⟩)] w (MorePost B w fb bs c tk ft v xs) := by
  have hm := ps_meth
  have hne : bs ≠ fb := by
    obtain ⟨a, cap, hb, _⟩ := h.src.row
    exact hb.ne h.blk (by decide)
  go_enter Tryz.func243, Tryz.ntmps243
  go_wp2_with fail
  go_loopg [3, 4, 5] 10 (fun g s3 s4 s5 wx => ∃ emp left k err : Nat, g = (if err = 0 then 10 - emp else 0) ∧ emp ≤ 9 ∧ (err = 0 → emp ≤ 8) ∧ s3 = .int .i64 emp ∧ FeedV B wx fb bs c tk ft left k err emp v xs ∧ Fr [fb, bs] w wx)
  case atStart => exact ⟨0, left, k, 0, rfl, by omega, by omega, rfl, h, Fr.refl _ _⟩
  case round =>
    obtain ⟨emp, left, k, err, hg, hemp, hemp8, rfl, hv, hf⟩ := hrel
    have hc := hv.blk.cell
    have hz := hv.blk.frozen
    by_cases he : err = 0
    · subst he
      rw [errV_zero] at hc
      have hgo : c.from_ ft left k emp = c.lim := hv.goes
      have hok := hv.src.ok
      have hsz := hv.size
      have hft := hv.ft_le
      have hemp9 := hemp8 rfl
      obtain ⟨m, e, ps, lf, kk, hr⟩ : ∃ m e ps lf kk, c.read ft left k = ⟨m, e, ps, lf, kk⟩ := ⟨_, _, _, _, _, rfl⟩
      have hbl := hv.blk
      have hsrc := hv.src
      have ho := hv.own
      have hstop := c.read_stop ft left k emp hok
      have hnone := c.read_none ft left k emp
      have hsome := c.read_some ft left k emp hok
      have hre := read_le c ft left k
      rw [hr] at hstop hnone hsome hre
      have hfb : fb ∉ [bs] := by simp [hne.symm]
      have hgk : gk = 10 - emp := hg
      by_cases he0 : e = 0
      · subst he0
        by_cases hm0 : m = 0
        · subst hm0
          obtain ⟨hps, hlf, hst⟩ := hnone rfl rfl
          have hps' := hps.symm
          subst hps'
          have hgo' := hgo
          clear hstop hnone hsome hgo hok hg
          by_cases h9 : 8 < emp + 1
          · have hi9 : (8 : Int) < emp + 1 := by omega
            rw [if_pos h9] at hst
            have hfin : c.lim = (ft, 14) := hgo'.symm.trans hst
            go_wp2_with (go_at_call 179; refine (read_piece hsrc hr).mono ?_; rw [errV_zero]; rintro ev w1 ⟨t, ht, rfl, hs1, hf1⟩; have ht0 := piece_none ht; have hb1 := hf1.blk hbl hfb; have hc1 := hb1.cell; have hz1 := hb1.frozen; have hov := no_over hsz hft (piece_le ht))
            go_roundg 0
            case measure => omega
            case rel =>
              refine ⟨emp + 1, lf, kk, 14, rfl, by omega, by omega, int_succ emp, hv.next ht (Nat.add_zero _).symm hs1 hf1 (fr3 fb w1 _ _ _ _ _ _) (((hb1.set 1 _).set 2 _).set 2 _) ?_ (by decide), hf.same (fr_two hf1 (fr3 fb w1 _ _ _ _ _ _))⟩
              rw [if_neg (by decide)]; exact hfin
          · have hi9 : ¬ (8 : Int) < emp + 1 := by omega
            rw [if_neg h9] at hst
            have hfin : c.from_ ft 0 kk (emp + 1) = c.lim := hst.symm.trans hgo'
            obtain rfl : lf = 0 := hlf
            go_wp2_with (go_at_call 179; refine (read_piece hsrc hr).mono ?_; rw [errV_zero]; rintro ev w1 ⟨t, ht, rfl, hs1, hf1⟩; have ht0 := piece_none ht; have hb1 := hf1.blk hbl hfb; have hc1 := hb1.cell; have hz1 := hb1.frozen; have hov := no_over hsz hft (piece_le ht))
            go_roundg (10 - (emp + 1))
            case measure => omega
            case rel =>
              exact ⟨emp + 1, 0, kk, 0, rfl, by omega, by omega, int_succ emp, hv.next ht (Nat.add_zero _).symm hs1 hf1 (fr2 fb w1 _ _ _ _) ((hb1.set 1 _).set 2 _) (by rw [if_pos rfl]; exact hfin) (by decide), hf.same (fr_two hf1 (fr2 fb w1 _ _ _ _))⟩
        · obtain ⟨_, hps, hok2, hm5, hst⟩ := hsome hm0
          have hfin : c.from_ ps lf kk 0 = c.lim := hst.symm.trans hgo
          have hml : ft + m ≤ c.text.size := hok2.2.1
          clear hstop hnone hsome hgo hok hg hst hok2
          go_wp2_with (go_at_call 179; refine (read_piece hsrc hr).mono ?_; rw [errV_zero]; rintro ev w1 ⟨t, ht, rfl, hs1, hf1⟩; have ht0 := piece_some ht hm0 hml; have hb1 := hf1.blk hbl hfb; have hc1 := hb1.cell; have hz1 := hb1.frozen; have hov := no_over hsz hft (piece_le ht) hm5)
          go_ret
          exact ⟨hf.same (fr_two hf1 (fr2 fb w1 _ _ _ _)), .inl ⟨rfl, ps, lf, kk, by omega, hv.next ht hps hs1 hf1 (fr2 fb w1 _ _ _ _) ((hb1.set 1 _).set 2 _) (by rw [if_pos rfl]; exact hfin) (by decide)⟩⟩
      · obtain ⟨hm0, hps, hst⟩ := hstop he0
        subst hm0
        have hps' := hps.symm
        subst hps'
        obtain ⟨hh, hl⟩ := errV_leaf he0
        have hln := hl.nil
        have hfin := hgo.symm.trans hst
        clear hstop hnone hsome hgo hok hl hg hst
        go_wp2_with (go_at_call 179; refine (read_piece' hsrc hr he0).mono ?_; rintro ev w1 ⟨t, ht, rfl, hs1, hf1⟩; have ht0 := piece_none ht; have hb1 := hf1.blk hbl hfb; have hc1 := hb1.cell; have hz1 := hb1.frozen; have hov := no_over hsz hft (piece_le ht))
        go_roundg 0
        case measure => omega
        case rel =>
          refine ⟨emp + 1, lf, kk, e, by rw [if_neg he0], by omega, fun h => absurd h he0, int_succ emp, hv.next ht (Nat.add_zero _).symm hs1 hf1 (fr2 fb w1 _ _ _ _) ?_ ?_ hre, hf.same (fr_two hf1 (fr2 fb w1 _ _ _ _))⟩
          · rw [errV_pos he0]; exact (hb1.set 1 _).set 2 _
          · rw [if_neg he0]; exact hfin
    · rw [errV_pos he] at hc
      obtain ⟨hh, hl⟩ := errV_leaf he
      have hln := hl.nil
      go_wp2_with fail
      go_ret
      exact ⟨hf, .inr ⟨rfl, left, k, err, he, ⟨hv.blk, hv.src, hv.own, hv.above, hv.le, by have := hv.goes; rw [if_neg he] at this ⊢; exact this, hv.errok, hv.few⟩⟩⟩
end Go.Proofs.YthigfpaajbejdaaGreatDoor
