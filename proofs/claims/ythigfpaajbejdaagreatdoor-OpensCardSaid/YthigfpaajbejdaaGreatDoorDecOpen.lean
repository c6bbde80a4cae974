/-
  flac.Open, walked, on both kinds.
-/
import Derived.Test.YthigfpaajbejdaaGreatDoorDecBegin2
import Derived.Test.YthigfpaajbejdaaGreatDoorKitOpen
import Derived.Test.YthigfpaajbejdaaGreatDoorNewBits
namespace Go.Proofs.YthigfpaajbejdaaGreatDoor
open Go.RowKit

set_option maxHeartbeats 400000 in
theorem placed_any {tv : Nat} {w : World} {db rb hb : Nat} {k0 k1 k2 : Value} {i : Nat → Int} {sm : ByteArray} {fr at_ : Int} (hd : DecF tv w db rb hb k0 k1 k2 i sm fr at_) (k : Nat) (hk : k ≠ 0) (hk2 : k < 17) :
    Calls Tryz.prog 81 #[.pointer (some ⟨db, 0, none⟩), .iface (errT k) (.int .i64 (errN k))] w fun e w' => ∃ v, e = .returned v ∧ NewErr w k fr at_ v w' := by
  have hc := hd.blk.cell
  have hcode := Hid.mk2 (codeV_errV hk hk2)
  generalize errT k = et at *
  generalize errN k = en at *
  go_enter Tryz.func81, Tryz.ntmps81
  go_wp2_with fail
  go_ret
  refine ⟨_, rfl, w.heap.size, rfl, ⟨(Blk.new w _ _).cell 0, (Blk.new w _ _).cell 1, ?_⟩, Fr.alloc [] w _, Nat.le_refl _⟩
  rw [hcode.out]
  exact (Blk.new w _ _).cell 2

/-- What flac.Open gives. -/
def FOpenPost (q : Bool) (tv B bs : Nat) (c : Cfg) (w : World) (ev : Ending) (w' : World) : Prop :=
  (∃ e a : Nat, c.openAll = .bad e a ∧ e ≠ 0 ∧ e < 17 ∧ ∃ v w1, ev = .returned (.tuple #[.nilIface, v]) ∧ Fr [bs] w w1 ∧ NewErr w1 e (-1) a v w') ∨
  (∃ (a p db rb hb : Nat) (k0 k1 k2 : Value) (S : List Nat), c.openAll = .good a ∧ ev = .returned (.tuple #[.iface 176 (.pointer (some ⟨db, 0, none⟩)), .nilIface]) ∧ RdS q B w' rb bs c p S ∧ DecF tv w' db rb hb k0 k1 k2 c.infI (c.text.extract 26 42) 0 a ∧ Fr [bs] w w' ∧ w.heap.size ≤ db ∧ a ≤ 1048576)
section
variable {q : Bool} {tv B db rb bs hb : Nat} {k0 k1 k2 : Value} {c : Cfg} {S : List Nat} {w w' : World} {ev : Ending} {e a : Nat}
theorem BeginPost.isBad (h : BeginPost q tv B db rb bs hb k0 k1 k2 c (.bad e a) S w ev w') : e ≠ 0 ∧ e < 17 ∧ ev = .returned (.iface (errT e) (.int .i64 (errN e))) ∧ ∃ p S1 i sm, MovT q B rb bs c [db] w S p w' S1 ∧ DecF tv w' db rb hb k0 k1 k2 i sm (-1) a := by
  obtain ⟨p, S1, i, sm, fr, at_, h1, h2, ⟨e1, a1, h3, h4, h5, h6, rfl, rfl⟩ | ⟨a1, h3, _⟩⟩ := h
  · injection h3 with h3 h7
    subst h3
    subst h7
    exact ⟨h4, h5, h6, p, S1, i, sm, h1, h2⟩
  · cases h3
theorem BeginPost.isGood (h : BeginPost q tv B db rb bs hb k0 k1 k2 c (.good a) S w ev w') : ev = .returned .nilIface ∧ ∃ p S1, MovT q B rb bs c [db] w S p w' S1 ∧ DecF tv w' db rb hb k0 k1 k2 c.infI (c.text.extract 26 42) 0 a := by
  obtain ⟨p, S1, i, sm, fr, at_, h1, h2, ⟨e1, a1, h3, _⟩ | ⟨a1, h3, h4, rfl, rfl, rfl, rfl⟩⟩ := h
  · cases h3
  · injection h3 with h3
    subst h3
    exact ⟨h4, p, S1, h1, h2⟩
end
theorem openGo_good {c : Cfg} : ∀ f k q {a : Nat}, c.openGo f k q = .good a → a ≤ c.lim.1
  | 0, _, _, _, h => by cases h
  | f + 1, k, q, a, h => by
    unfold Cfg.openGo at h
    split at h
    · cases h
    · split at h
      · cases h
      · split at h
        · split at h
          · cases h
          · split at h
            · cases h
            · split at h
              · injection h with h; omega
              · exact openGo_good f _ _ h
        · split at h
          · cases h
          · split at h
            · injection h with h; omega
            · exact openGo_good f _ _ h
theorem openAll_good {c : Cfg} {a : Nat} (hk : LimOk c) (h : c.openAll = .good a) : a ≤ 1048576 := by
  have h1 := hk.len
  have h2 := hk.small
  unfold Cfg.openAll at h
  split at h
  · cases h
  · split at h
    · cases h
    · have := openGo_good _ _ _ h; omega
theorem begin_any_s {B : Nat} {w : World} {db rb bs hb : Nat} {k0 k1 k2 : Value} {c : Cfg} {S : List Nat} (hk : LimOk c) (hd : DecF 230 w db rb hb k0 k1 k2 (fun _ => 0) ⟨#[]⟩ (-1) 0) (h : RdS false B w rb bs c 0 S) (hdb : db ∉ S) (hB : B ≤ db) :
    Calls Tryz.prog 80 #[.pointer (some ⟨db, 0, none⟩)] w (BeginPost false 230 B db rb bs hb k0 k1 k2 c c.openAll S w) := by
  unfold Cfg.openAll
  by_cases hL : c.lim.1 < 4
  · rw [if_pos hL]; exact begin_short_s hk hd h hdb hB hL
  · rw [if_neg hL]
    by_cases hm : c.markText ≠ [102, 76, 97, 67]
    · rw [if_pos hm]; exact begin_mark_s hk hd h hdb hB (by omega) hm
    · rw [if_neg hm]; exact begin_run_s hk hd h hdb hB (by omega) (Decidable.not_not.1 hm) rfl
set_option maxRecDepth 100000 in
set_option maxHeartbeats 2000000 in
theorem fOpen_s {B : Nat} {w : World} {bs : Nat} {c : Cfg} {a : Option Addr} {cap : Nat} (hk : LimOk c) (hs : Blk w bs #[.string c.text, .slice a c.ps.length cap, .int .i64 c.broken, .int .i64 0, .int .i64 0, .int .i64 0, .bool false] 101)
    (hP : Pcs B w a c.ps) (hB : B ≤ w.heap.size) (hBs : B ≤ bs) (hl : c.len ≤ 1048576) (hbb : -9223372036854775808 ≤ c.broken ∧ c.broken ≤ 9223372036854775807) :
    Calls Tryz.prog 42 #[.iface 99 (.pointer (some ⟨bs, 0, none⟩)), .int .i64 0] w (FOpenPost false 230 B bs c w) := by
  have hbb' := Hid.mk2 hbb
  have hl' := Hid.mk2 hl
  have hs' := Hid.mk2 hs
  have hP' := Hid.mk2 hP
  have hbl := hs.lt
  have hR : ∃ R, Hid (R = c.openAll) := ⟨_, rfl⟩
  clear hbb hl hs hP
  go_enter Tryz.func42, Tryz.ntmps42
  go_wp2_with (first
    | (go_at_call 79; (with_reducible refine (bNew_s _ _).mono ?_); rintro e w1 ⟨rb, fb, rfl, hfe, hrd, hf1, hr1, hr2⟩)
    | (go_at_call 60; (with_reducible refine (kitO_s _).mono ?_); rintro e w2 ⟨f0, f1, f2, rfl, hf2⟩)
    | (go_at_call 61; (with_reducible refine (hashNew_any _).mono ?_); rintro e w3 ⟨rfl, hf3⟩))
  have hfA := hf1.same (hf2.same hf3)
  have hdl : w3.heap.size < (w3.alloc (.cells #[.iface 230 (.pointer (some ⟨rb, 0, none⟩)), .func f0 #[] #[], .func f1 #[] #[], .func f2 #[] #[], .int .i64 0, .int .i64 0, .int .i64 0, .int .i64 0, .int .i64 0, .int .i64 0, .int .i64 0, .int .i64 0, .string ⟨#[]⟩, .pointer (some ⟨w2.heap.size, 0, none⟩), .int .i64 (-1), .int .i64 0, .int .i64 0, .bool false, .nilIface] 178)).heap.size := by simp
  have hF := hfA.alloc' (.cells #[.iface 230 (.pointer (some ⟨rb, 0, none⟩)), .func f0 #[] #[], .func f1 #[] #[], .func f2 #[] #[], .int .i64 0, .int .i64 0, .int .i64 0, .int .i64 0, .int .i64 0, .int .i64 0, .int .i64 0, .int .i64 0, .string ⟨#[]⟩, .pointer (some ⟨w2.heap.size, 0, none⟩), .int .i64 (-1), .int .i64 0, .int .i64 0, .bool false, .nilIface] 178)
  have hfd := feed_new (a := a) (cap := cap) hfe (hf1.blk hs'.out (by simp)) (hP'.out.keep hf1 (by simp)) (Nat.le_trans hB hr2) hBs hl'.out hbb'.out
  have hS1 : RdS false B w1 rb bs c 0 [rb, fb, bs] := ⟨fb, 0, 0, 0, 0, 0, 0, _, _, ⟨hrd, hfd, Nat.le_trans hB hr1, by decide⟩, rfl, Nat.zero_le _, rfl⟩
  have hrl := hrd.lt
  have hfl := hfe.lt
  have hsz := hf2.size
  have hsz3 := hf3.size
  have hsz1 := hf1.size
  have hS4 := Hid.mk2 ((hS1.still (hf2.same hf3)).still (Fr.alloc [] w3 (.cells #[.iface 230 (.pointer (some ⟨rb, 0, none⟩)), .func f0 #[] #[], .func f1 #[] #[], .func f2 #[] #[], .int .i64 0, .int .i64 0, .int .i64 0, .int .i64 0, .int .i64 0, .int .i64 0, .int .i64 0, .int .i64 0, .string ⟨#[]⟩, .pointer (some ⟨w2.heap.size, 0, none⟩), .int .i64 (-1), .int .i64 0, .int .i64 0, .bool false, .nilIface] 178)))
  have hd4 : DecF 230 (w3.alloc (.cells #[.iface 230 (.pointer (some ⟨rb, 0, none⟩)), .func f0 #[] #[], .func f1 #[] #[], .func f2 #[] #[], .int .i64 0, .int .i64 0, .int .i64 0, .int .i64 0, .int .i64 0, .int .i64 0, .int .i64 0, .int .i64 0, .string ⟨#[]⟩, .pointer (some ⟨w2.heap.size, 0, none⟩), .int .i64 (-1), .int .i64 0, .int .i64 0, .bool false, .nilIface] 178)) w3.heap.size rb w2.heap.size (.func f0 #[] #[]) (.func f1 #[] #[]) (.func f2 #[] #[]) (fun _ => 0) ⟨#[]⟩ (-1) 0 := Blk.new w3 _ _
  have hdS : w3.heap.size ∉ [rb, fb, bs] := by simp; omega
  have hbeg := Hid.mk2 (begin_any_s hk hd4 hS4.out hdS (by omega))
  have hnw : Hid (∀ x ∈ [w3.heap.size] ++ [rb, fb, bs], x ∈ [bs] ∨ w.heap.size ≤ x) := fun x hx => by simp at hx ⊢; omega
  have hdw : Hid (w.heap.size ≤ w3.heap.size) := by unfold Hid; omega
  have hF' := Hid.mk2 (hF.mono (T := [bs]) (by simp))
  clear hfe hrd hfd hS1 hf1 hf2 hf3 hfA hrl hfl hsz hsz3 hsz1 hr1 hr2 hS4 hF hdl
  obtain ⟨R, hR⟩ := hR
  have hRk := Hid.mk2 hk
  rw [← hR.out] at hbeg
  cases R with
  | bad e0 a0 =>
    go_wp2_with (first
      | (go_at_call 80; (with_reducible refine (hbeg.out).mono ?_); rintro e w5 hs; obtain ⟨he0, he17, rfl, p5, S5, i5, sm5, hM5, hd5⟩ := hs.isBad; obtain ⟨hh, hlf⟩ := errV_leaf he0; have hln := hlf.nnil; have hpl := Hid.mk2 (placed_any hd5 e0 he0 he17); have he' : Hid (e0 ≠ 0 ∧ e0 < 17) := ⟨he0, he17⟩; clear he0 he17 hlf)
      | (go_at_call 81; (with_reducible refine (hpl.out).mono ?_); rintro e w6 ⟨v, rfl, hN⟩))
    go_ret2
    exact .inl ⟨e0, a0, hR.out.symm, he'.out.1, he'.out.2, v, w5, rfl, hF'.out.trans hM5.fr hnw.out, hN⟩
  | good a0 =>
    go_wp2_with (go_at_call 80; (with_reducible refine (hbeg.out).mono ?_); rintro e w5 hs; obtain ⟨rfl, p5, S5, hM5, hd5⟩ := hs.isGood)
    go_ret2
    exact .inr ⟨a0, p5, _, rb, _, _, _, _, S5, hR.out.symm, rfl, hM5.rd, hd5, hF'.out.trans hM5.fr hnw.out, hdw.out, openAll_good hRk.out hR.out.symm⟩

theorem begin_any_q {B : Nat} {w : World} {db rb bs hb : Nat} {k0 k1 k2 : Value} {c : Cfg} {S : List Nat} (hk : LimOk c) (hd : DecF 233 w db rb hb k0 k1 k2 (fun _ => 0) ⟨#[]⟩ (-1) 0) (h : RdS true B w rb bs c 0 S) (hdb : db ∉ S) (hB : B ≤ db) :
    Calls Tryz.prog 80 #[.pointer (some ⟨db, 0, none⟩)] w (BeginPost true 233 B db rb bs hb k0 k1 k2 c c.openAll S w) := by
  unfold Cfg.openAll
  by_cases hL : c.lim.1 < 4
  · rw [if_pos hL]; exact begin_short_q hk hd h hdb hB hL
  · rw [if_neg hL]
    by_cases hm : c.markText ≠ [102, 76, 97, 67]
    · rw [if_pos hm]; exact begin_mark_q hk hd h hdb hB (by omega) hm
    · rw [if_neg hm]; exact begin_run_q hk hd h hdb hB (by omega) (Decidable.not_not.1 hm) rfl
set_option maxRecDepth 100000 in
set_option maxHeartbeats 2000000 in
theorem fOpen_q {B : Nat} {w : World} {bs : Nat} {c : Cfg} {a : Option Addr} {cap : Nat} (hk : LimOk c) (hs : Blk w bs #[.string c.text, .slice a c.ps.length cap, .int .i64 c.broken, .int .i64 0, .int .i64 0, .int .i64 0, .bool false] 101)
    (hP : Pcs B w a c.ps) (hB : B ≤ w.heap.size) (hBs : B ≤ bs) (hl : c.len ≤ 1048576) (hbb : -9223372036854775808 ≤ c.broken ∧ c.broken ≤ 9223372036854775807) :
    Calls Tryz.prog 42 #[.iface 99 (.pointer (some ⟨bs, 0, none⟩)), .int .i64 1] w (FOpenPost true 233 B bs c w) := by
  have hbb' := Hid.mk2 hbb
  have hl' := Hid.mk2 hl
  have hs' := Hid.mk2 hs
  have hP' := Hid.mk2 hP
  have hbl := hs.lt
  have hR : ∃ R, Hid (R = c.openAll) := ⟨_, rfl⟩
  clear hbb hl hs hP
  go_enter Tryz.func42, Tryz.ntmps42
  go_wp2_with (first
    | (go_at_call 79; (with_reducible refine (bNew_q _ _).mono ?_); rintro e w1 ⟨rb, fb, rfl, hfe, hrd, hf1, hr1, hr2⟩)
    | (go_at_call 60; (with_reducible refine (kitO_q _).mono ?_); rintro e w2 ⟨f0, f1, f2, x0, x1, rfl, hf2⟩)
    | (go_at_call 61; (with_reducible refine (hashNew_any _).mono ?_); rintro e w3 ⟨rfl, hf3⟩))
  have hfA := hf1.same (hf2.same hf3)
  have hdl : w3.heap.size < (w3.alloc (.cells #[.iface 233 (.pointer (some ⟨rb, 0, none⟩)), .func f0 x0 #[], .func f1 x1 #[], .func f2 #[] #[], .int .i64 0, .int .i64 0, .int .i64 0, .int .i64 0, .int .i64 0, .int .i64 0, .int .i64 0, .int .i64 0, .string ⟨#[]⟩, .pointer (some ⟨w2.heap.size, 0, none⟩), .int .i64 (-1), .int .i64 0, .int .i64 0, .bool false, .nilIface] 178)).heap.size := by simp
  have hF := hfA.alloc' (.cells #[.iface 233 (.pointer (some ⟨rb, 0, none⟩)), .func f0 x0 #[], .func f1 x1 #[], .func f2 #[] #[], .int .i64 0, .int .i64 0, .int .i64 0, .int .i64 0, .int .i64 0, .int .i64 0, .int .i64 0, .int .i64 0, .string ⟨#[]⟩, .pointer (some ⟨w2.heap.size, 0, none⟩), .int .i64 (-1), .int .i64 0, .int .i64 0, .bool false, .nilIface] 178)
  have hfd := feed_new (a := a) (cap := cap) hfe (hf1.blk hs'.out (by simp)) (hP'.out.keep hf1 (by simp)) (Nat.le_trans hB hr2) hBs hl'.out hbb'.out
  have hS1 : RdS true B w1 rb bs c 0 [rb, fb, bs] := ⟨fb, 0, 0, 0, 0, 0, 0, _, _, ⟨by rw [c.res_none 0 0 rfl]; exact hrd, hfd, Nat.le_trans hB hr1, rfl, by decide, Nat.le_refl _⟩, rfl⟩
  have hrl := hrd.lt
  have hfl := hfe.lt
  have hsz := hf2.size
  have hsz3 := hf3.size
  have hsz1 := hf1.size
  have hS4 := Hid.mk2 ((hS1.still (hf2.same hf3)).still (Fr.alloc [] w3 (.cells #[.iface 233 (.pointer (some ⟨rb, 0, none⟩)), .func f0 x0 #[], .func f1 x1 #[], .func f2 #[] #[], .int .i64 0, .int .i64 0, .int .i64 0, .int .i64 0, .int .i64 0, .int .i64 0, .int .i64 0, .int .i64 0, .string ⟨#[]⟩, .pointer (some ⟨w2.heap.size, 0, none⟩), .int .i64 (-1), .int .i64 0, .int .i64 0, .bool false, .nilIface] 178)))
  have hd4 : DecF 233 (w3.alloc (.cells #[.iface 233 (.pointer (some ⟨rb, 0, none⟩)), .func f0 x0 #[], .func f1 x1 #[], .func f2 #[] #[], .int .i64 0, .int .i64 0, .int .i64 0, .int .i64 0, .int .i64 0, .int .i64 0, .int .i64 0, .int .i64 0, .string ⟨#[]⟩, .pointer (some ⟨w2.heap.size, 0, none⟩), .int .i64 (-1), .int .i64 0, .int .i64 0, .bool false, .nilIface] 178)) w3.heap.size rb w2.heap.size (.func f0 x0 #[]) (.func f1 x1 #[]) (.func f2 #[] #[]) (fun _ => 0) ⟨#[]⟩ (-1) 0 := Blk.new w3 _ _
  have hdS : w3.heap.size ∉ [rb, fb, bs] := by simp; omega
  have hbeg := Hid.mk2 (begin_any_q hk hd4 hS4.out hdS (by omega))
  have hnw : Hid (∀ x ∈ [w3.heap.size] ++ [rb, fb, bs], x ∈ [bs] ∨ w.heap.size ≤ x) := fun x hx => by simp at hx ⊢; omega
  have hdw : Hid (w.heap.size ≤ w3.heap.size) := by unfold Hid; omega
  have hF' := Hid.mk2 (hF.mono (T := [bs]) (by simp))
  clear hfe hrd hfd hS1 hf1 hf2 hf3 hfA hrl hfl hsz hsz3 hsz1 hr1 hr2 hS4 hF hdl
  obtain ⟨R, hR⟩ := hR
  have hRk := Hid.mk2 hk
  rw [← hR.out] at hbeg
  cases R with
  | bad e0 a0 =>
    go_wp2_with (first
      | (go_at_call 80; (with_reducible refine (hbeg.out).mono ?_); rintro e w5 hs; obtain ⟨he0, he17, rfl, p5, S5, i5, sm5, hM5, hd5⟩ := hs.isBad; obtain ⟨hh, hlf⟩ := errV_leaf he0; have hln := hlf.nnil; have hpl := Hid.mk2 (placed_any hd5 e0 he0 he17); have he' : Hid (e0 ≠ 0 ∧ e0 < 17) := ⟨he0, he17⟩; clear he0 he17 hlf)
      | (go_at_call 81; (with_reducible refine (hpl.out).mono ?_); rintro e w6 ⟨v, rfl, hN⟩))
    go_ret2
    exact .inl ⟨e0, a0, hR.out.symm, he'.out.1, he'.out.2, v, w5, rfl, hF'.out.trans hM5.fr hnw.out, hN⟩
  | good a0 =>
    go_wp2_with (go_at_call 80; (with_reducible refine (hbeg.out).mono ?_); rintro e w5 hs; obtain ⟨rfl, p5, S5, hM5, hd5⟩ := hs.isGood)
    go_ret2
    exact .inr ⟨a0, p5, _, rb, _, _, _, _, S5, hR.out.symm, rfl, hM5.rd, hd5, hF'.out.trans hM5.fr hnw.out, hdw.out, openAll_good hRk.out hR.out.symm⟩

end Go.Proofs.YthigfpaajbejdaaGreatDoor
