/-
  plain.Open, walked.
-/
import Derived.Test.YthigfpaajbejdaaGreatDoorDecOpen
namespace Go.Proofs.YthigfpaajbejdaaGreatDoor
open Go.RowKit

theorem limOk_of {c : Cfg} (hl : c.len ≤ 1048576) : LimOk c := by
  have h := limGo_bounds c.len c.broken c.ps 0 0 (Nat.zero_le _) (fun h => by omega)
  exact ⟨h.2.1, hl, h.2.2⟩
theorem openGo_bad {c : Cfg} : ∀ f k q {e a : Nat}, q ≤ c.lim.1 → c.openGo f k q = .bad e a → a ≤ c.lim.1
  | 0, _, _, _, _, hq, h => by injection h with _ h; omega
  | f + 1, k, q, e, a, hq, h => by
    unfold Cfg.openGo at h
    split at h
    · injection h with _ h; omega
    · split at h
      · injection h with _ h; omega
      · split at h
        · split at h
          · injection h with _ h; omega
          · split at h
            · injection h with _ h; omega
            · split at h
              · cases h
              · exact openGo_bad f _ _ (by omega) h
        · split at h
          · injection h with _ h; omega
          · split at h
            · cases h
            · exact openGo_bad f _ _ (by omega) h
theorem openAll_bad {c : Cfg} {e a : Nat} (hk : LimOk c) (h : c.openAll = .bad e a) : a ≤ 1048576 := by
  have h1 := hk.len
  have h2 := hk.small
  unfold Cfg.openAll at h
  split at h
  · injection h with _ h; omega
  · split at h
    · injection h with _ h; omega
    · have := openGo_bad _ _ _ (by omega) h; omega

theorem fOpen_no (tv : Nat) (x : Value) (kind : Int) (h0 : kind ≠ 0) (h1 : kind ≠ 1) (w : World) : Calls Tryz.prog 42 #[.iface tv x, .int .i64 kind] w fun e w' => ∃ v, e = .returned (.tuple #[.nilIface, v]) ∧ NewErr w 15 (-1) 0 v w' := by
  go_enter Tryz.func42, Tryz.ntmps42
  go_wp2_with (go_at_call 79; refine (bNew_no _ _ kind h0 h1 _).mono ?_; rintro e w1 ⟨rfl, hf⟩)
  go_ret2
  exact ⟨_, rfl, w1.heap.size, rfl, ⟨(Blk.new w1 _ _).cell 0, (Blk.new w1 _ _).cell 1, (Blk.new w1 _ _).cell 2⟩, hf.alloc' _, hf.size⟩
set_option maxHeartbeats 4000000 in
theorem pOpen_no {ct : ByteArray} {a : Option Addr} {cl cap : Nat} {cb : Int} (kind : Int) (h0 : kind ≠ 0) (h1 : kind ≠ 1) (w : World) (hg : Gl w) : Calls Tryz.prog 17 #[.agg #[.string ct, .slice a cl cap, .int .i64 cb], .int .i64 kind] w fun e w' =>
    e = .returned (.tuple #[.pointer none, .agg #[.int .i64 15, .int .i64 (-1), .int .i64 0]]) ∧ Fr [] w w' := by
  go_enter Tryz.func17, Tryz.ntmps17
  have hF := ((Fr.alloc [] w (.cells #[.string ct, .slice a cl cap, .int .i64 cb] 33)).alloc' (.cells #[.int .i64 0, .int .i64 0, .int .i64 0] 23)).alloc' (.cells #[.string ct, .slice a cl cap, .int .i64 cb, .int .i64 0, .int .i64 0, .int .i64 0, .bool false] 101)
  have hb00 := (Blk.new (w.alloc (.cells #[.string ct, .slice a cl cap, .int .i64 cb] 33)) #[.int .i64 0, .int .i64 0, .int .i64 0] 23).alloc (.cells #[.string ct, .slice a cl cap, .int .i64 cb, .int .i64 0, .int .i64 0, .int .i64 0, .bool false] 101)
  have hb0 := hb00
  rw [show (w.alloc (.cells #[.string ct, .slice a cl cap, .int .i64 cb] 33)).heap.size = w.heap.size + 1 by simp] at hb0
  clear hb00
  go_wp2_with (first
    | (go_at_call 42; refine (fOpen_no _ _ _ h0 h1 _).mono ?_; rintro e w1 ⟨v, rfl, he⟩)
    | (go_at_call 33; refine (fault_of _ 15 _ _ _ (by decide) (by decide) (.inl rfl) (.inr ⟨by decide, by decide⟩) _ (hg.keep hF (by simp) (by simp)) he).mono ?_; rintro e w2 ⟨rfl, hf2⟩; have hb2 := hf2.blk hb0 (by simp); have hc2 := hb2.cell; have hz2 := hb2.frozen; have hl2 := hb2.lt; have hne2 := Nat.ne_of_lt hl2; have hne3 := Nat.ne_of_gt hl2))
  go_region
  all_goals go_wp2_with fail
  refine bodyPost_ret (results_tc rfl _ _ (w.heap.size + 1) 23 #[.int .i64 15, .int .i64 (-1), .int .i64 0] (0, 0) _ rfl (((((hb2.set 0 _).set 1 _).set 2 _).alloc _).drewN 1) Tryz.underlying23 rfl (by kernel_rfl)) rfl ?_
  exact ⟨rfl, (((((hF.same hf2).setNew _ (by simp)).setNew _ (by simp)).setNew _ (by simp)).alloc' _).drew'⟩

/-- What plain.Open gives. -/
def POpenPost (tv B : Nat) (c : Cfg) (w : World) (ev : Ending) (w' : World) : Prop :=
  (∃ e a : Nat, c.openAll = .bad e a ∧ ev = .returned (.tuple #[.pointer none, .agg #[.int .i64 e, .int .i64 (-1), .int .i64 a]]) ∧ Fr [] w w') ∨
  (∃ (a pb db rb bs hb : Nat) (k0 k1 k2 : Value), c.openAll = .good a ∧ ev = .returned (.tuple #[.pointer (some ⟨pb, 0, none⟩), .agg #[.int .i64 0, .int .i64 0, .int .i64 0]]) ∧
    Blk w' pb #[.iface 176 (.pointer (some ⟨db, 0, none⟩)), .pointer (some ⟨bs, 0, none⟩)] 107 ∧ (∃ pos left k, SrcI B w' bs c pos left k) ∧ DecF tv w' db rb hb k0 k1 k2 c.infI (c.text.extract 26 42) 0 a ∧ Fr [] w w' ∧ a ≤ 1048576)
section
variable {q : Bool} {tv B bs : Nat} {c : Cfg} {w w' : World} {ev : Ending} {e a : Nat}
theorem FOpenPost.isBad (h : FOpenPost q tv B bs c w ev w') (hR : c.openAll = .bad e a) : e ≠ 0 ∧ e < 17 ∧ ∃ v w1, ev = .returned (.tuple #[.nilIface, v]) ∧ Fr [bs] w w1 ∧ NewErr w1 e (-1) a v w' := by
  rcases h with ⟨e1, a1, h1, h2, h3, h4⟩ | ⟨a1, _, _, _, _, _, _, _, _, h1, _⟩
  · rw [hR] at h1
    injection h1 with h5 h6
    subst h5
    subst h6
    exact ⟨h2, h3, h4⟩
  · rw [hR] at h1; cases h1
theorem FOpenPost.isGood (h : FOpenPost q tv B bs c w ev w') (hR : c.openAll = .good a) : ∃ (p db rb hb : Nat) (k0 k1 k2 : Value) (S : List Nat), ev = .returned (.tuple #[.iface 176 (.pointer (some ⟨db, 0, none⟩)), .nilIface]) ∧ RdS q B w' rb bs c p S ∧ DecF tv w' db rb hb k0 k1 k2 c.infI (c.text.extract 26 42) 0 a ∧ Fr [bs] w w' ∧ w.heap.size ≤ db ∧ a ≤ 1048576 := by
  rcases h with ⟨e1, a1, h1, _⟩ | ⟨a1, p, db, rb, hb, k0, k1, k2, S, h1, h2⟩
  · rw [hR] at h1; cases h1
  · rw [hR] at h1
    injection h1 with h5
    subst h5
    exact ⟨p, db, rb, hb, k0, k1, k2, S, h2⟩
end
set_option maxRecDepth 100000 in
set_option maxHeartbeats 4000000 in
theorem pOpen_s {B : Nat} {w : World} {c : Cfg} {a : Option Addr} {cap : Nat} (hg : Gl w) (hP : Pcs B w a c.ps) (hB : B ≤ w.heap.size) (hl : c.len ≤ 1048576) (hbb : -9223372036854775808 ≤ c.broken ∧ c.broken ≤ 9223372036854775807) :
    Calls Tryz.prog 17 #[.agg #[.string c.text, .slice a c.ps.length cap, .int .i64 c.broken], .int .i64 0] w (POpenPost 230 B c w) := by
  have hk := Hid.mk2 (limOk_of hl)
  have hlen := Hid.mk2 hl
  have hbb' := Hid.mk2 hbb
  clear hbb hl
  have hcall := fun W bs (hs : Blk W bs #[.string c.text, .slice a c.ps.length cap, .int .i64 c.broken, .int .i64 0, .int .i64 0, .int .i64 0, .bool false] 101) (hP : Pcs B W a c.ps) (hB : B ≤ W.heap.size) (hBs : B ≤ bs) => Hid.mk2 (fOpen_s hk.out hs hP hB hBs hlen.out hbb'.out)
  obtain ⟨cl, hcl⟩ : ∃ cl, cl = c.ps.length := ⟨_, rfl⟩
  obtain ⟨ct, hct⟩ : ∃ ct, ct = c.text := ⟨_, rfl⟩
  obtain ⟨cb, hcb⟩ : ∃ cb, cb = c.broken := ⟨_, rfl⟩
  rw [← hcl, ← hct, ← hcb] at hcall ⊢
  clear hcl hct hcb
  have hF : Fr [] w (((w.alloc (.cells #[.string ct, .slice a cl cap, .int .i64 cb] 33)).alloc (.cells #[.int .i64 0, .int .i64 0, .int .i64 0] 23)).alloc (.cells #[.string ct, .slice a cl cap, .int .i64 cb, .int .i64 0, .int .i64 0, .int .i64 0, .bool false] 101)) := ((Fr.alloc [] w _).alloc' _).alloc' _
  have hb00 := (Blk.new (w.alloc (.cells #[.string ct, .slice a cl cap, .int .i64 cb] 33)) #[.int .i64 0, .int .i64 0, .int .i64 0] 23).alloc (.cells #[.string ct, .slice a cl cap, .int .i64 cb, .int .i64 0, .int .i64 0, .int .i64 0, .bool false] 101)
  have hb0 := hb00
  rw [show (w.alloc (.cells #[.string ct, .slice a cl cap, .int .i64 cb] 33)).heap.size = w.heap.size + 1 by simp] at hb0
  have hs00 := Blk.new ((w.alloc (.cells #[.string ct, .slice a cl cap, .int .i64 cb] 33)).alloc (.cells #[.int .i64 0, .int .i64 0, .int .i64 0] 23)) #[.string ct, .slice a cl cap, .int .i64 cb, .int .i64 0, .int .i64 0, .int .i64 0, .bool false] 101
  have hs0 := hs00
  rw [show ((w.alloc (.cells #[.string ct, .slice a cl cap, .int .i64 cb] 33)).alloc (.cells #[.int .i64 0, .int .i64 0, .int .i64 0] 23)).heap.size = w.heap.size + 1 + 1 by simp] at hs0
  clear hb00 hs00
  have hWs : ((((w.alloc (.cells #[.string ct, .slice a cl cap, .int .i64 cb] 33)).alloc (.cells #[.int .i64 0, .int .i64 0, .int .i64 0] 23)).alloc (.cells #[.string ct, .slice a cl cap, .int .i64 cb, .int .i64 0, .int .i64 0, .int .i64 0, .bool false] 101))).heap.size = w.heap.size + 3 := by simp
  have hcl := Hid.mk2 ((hcall _ _ hs0 (hP.keep hF (by simp)) (by omega) (by omega)).out)
  have hWs' := Hid.mk2 hWs
  clear hcall hWs hP
  cases hR : c.openAll with
  | bad e0 a0 =>
    have hR' := Hid.mk2 hR
    have hal := openAll_bad hk.out hR
    have hok : OkN ((a0 : Nat) : Int) := .inr ⟨by omega, by omega⟩
    clear hR
    go_enter Tryz.func17, Tryz.ntmps17
    go_wp2_with (first
      | (go_at_call 42; (with_reducible refine (hcl.out).mono ?_); rintro e w1 hs; obtain ⟨he0, he17, v, wm, rfl, hfm, hN⟩ := hs.isBad hR'.out; have hFm : Fr [] w wm := hF.trans hfm (fun x hx => .inr (by rw [List.mem_singleton] at hx; omega)); have he1 : ((e0 : Int) != 0) = true := by simpa using he0)
      | (go_at_call 33; refine (fault_of wm e0 (-1) a0 v (by omega) he17 okn_neg hok _ (hg.keep hFm (by simp) (by simp)) hN).mono ?_; rintro e w2 ⟨rfl, hf2⟩; have hb2 := hf2.blk (hfm.blk hb0 (by simp)) (by simp); have hc2 := hb2.cell; have hz2 := hb2.frozen; have hl2 := hb2.lt; have hne2 := Nat.ne_of_lt hl2; have hne3 := Nat.ne_of_gt hl2))
    go_region
    all_goals go_wp2_with fail
    refine bodyPost_ret (results_tc rfl _ _ (w.heap.size + 1) 23 #[.int .i64 e0, .int .i64 (-1), .int .i64 a0] (0, 0) _ rfl (((((hb2.set 0 _).set 1 _).set 2 _).alloc _).drewN 1) Tryz.underlying23 rfl (by kernel_rfl)) rfl ?_
    exact .inl ⟨e0, a0, hR'.out, rfl, (((((hFm.same hf2).setNew _ (by simp)).setNew _ (by simp)).setNew _ (by simp)).alloc' _).drew'⟩
  | good a0 =>
    have hR' := Hid.mk2 hR
    clear hR
    go_enter Tryz.func17, Tryz.ntmps17
    go_wp2_with (first
      | (go_at_call 42; (with_reducible refine (hcl.out).mono ?_); rintro e w1 hs; obtain ⟨p, db, rb, hb, k0, k1, k2, S, rfl, hrd, hdc, hf1, hdb, hal⟩ := hs.isGood hR'.out)
      | (go_at_call 33; refine (fault_nil _).mono ?_; rintro e w2 ⟨rfl, hf2⟩; have hb2 := hf2.blk (hf1.blk hb0 (by simp)) (by simp); have hc2 := hb2.cell; have hz2 := hb2.frozen; have hl2 := hb2.lt; have hne2 := Nat.ne_of_lt hl2; have hne3 := Nat.ne_of_gt hl2; have hb3 := (hb2.alloc (.cells #[.int .i64 0, .int .i64 0, .int .i64 0] 23)).alloc (.cells #[.iface 176 (.pointer (some ⟨db, 0, none⟩)), .pointer (some ⟨w.heap.size + 1 + 1, 0, none⟩)] 107); have hc3 := hb3.cell; have hz3 := hb3.frozen))
    refine bodyPost_ret (results_tc rfl _ _ (w.heap.size + 1) 23 #[.int .i64 0, .int .i64 0, .int .i64 0] (0, 0) _ rfl (((hb3.set 0 _).set 1 _).set 2 _) Tryz.underlying23 rfl (by kernel_rfl)) rfl ?_
    have hFa : Fr [] w w1 := hF.trans hf1 (fun x hx => .inr (by rw [List.mem_singleton] at hx; omega))
    have hFb : Fr [] w1 ((w2.alloc (.cells #[.int .i64 0, .int .i64 0, .int .i64 0] 23)).alloc (.cells #[.iface 176 (.pointer (some ⟨db, 0, none⟩)), .pointer (some ⟨w.heap.size + 1 + 1, 0, none⟩)] 107)) := (hf2.alloc' _).alloc' _
    have hpb : Blk ((w2.alloc (.cells #[.int .i64 0, .int .i64 0, .int .i64 0] 23)).alloc (.cells #[.iface 176 (.pointer (some ⟨db, 0, none⟩)), .pointer (some ⟨w.heap.size + 1 + 1, 0, none⟩)] 107)) (w2.heap.size + 1) #[.iface 176 (.pointer (some ⟨db, 0, none⟩)), .pointer (some ⟨w.heap.size + 1 + 1, 0, none⟩)] 107 := Blk.newAt (by simp)
    have hsz := hf1.size
    have hws := hWs'.out
    have hsz2 := hf2.size
    have hFc := fr3 (w.heap.size + 1) ((w2.alloc (.cells #[.int .i64 0, .int .i64 0, .int .i64 0] 23)).alloc (.cells #[.iface 176 (.pointer (some ⟨db, 0, none⟩)), .pointer (some ⟨w.heap.size + 1 + 1, 0, none⟩)] 107)) 0 1 2 (.int .i64 0) (.int .i64 0) (.int .i64 0)
    obtain ⟨pos, left, k, hsr⟩ := hrd.src
    refine .inr ⟨a0, w2.heap.size + 1, db, rb, w.heap.size + 1 + 1, hb, k0, k1, k2, hR'.out, rfl, hFc.blk hpb (by simp; omega), ⟨pos, left, k, (hsr.keep hFb (by simp) (by simp)).keep hFc (by simp) (by simp; omega)⟩, hFc.blk (hFb.blk hdc.blk (by simp)) (by simp; omega), (hFa.same hFb).trans hFc (fun x hx => .inr (by rw [List.mem_singleton] at hx; omega)), hal⟩

set_option maxRecDepth 100000 in
set_option maxHeartbeats 4000000 in
theorem pOpen_q {B : Nat} {w : World} {c : Cfg} {a : Option Addr} {cap : Nat} (hg : Gl w) (hP : Pcs B w a c.ps) (hB : B ≤ w.heap.size) (hl : c.len ≤ 1048576) (hbb : -9223372036854775808 ≤ c.broken ∧ c.broken ≤ 9223372036854775807) :
    Calls Tryz.prog 17 #[.agg #[.string c.text, .slice a c.ps.length cap, .int .i64 c.broken], .int .i64 1] w (POpenPost 233 B c w) := by
  have hk := Hid.mk2 (limOk_of hl)
  have hlen := Hid.mk2 hl
  have hbb' := Hid.mk2 hbb
  clear hbb hl
  have hcall := fun W bs (hs : Blk W bs #[.string c.text, .slice a c.ps.length cap, .int .i64 c.broken, .int .i64 0, .int .i64 0, .int .i64 0, .bool false] 101) (hP : Pcs B W a c.ps) (hB : B ≤ W.heap.size) (hBs : B ≤ bs) => Hid.mk2 (fOpen_q hk.out hs hP hB hBs hlen.out hbb'.out)
  obtain ⟨cl, hcl⟩ : ∃ cl, cl = c.ps.length := ⟨_, rfl⟩
  obtain ⟨ct, hct⟩ : ∃ ct, ct = c.text := ⟨_, rfl⟩
  obtain ⟨cb, hcb⟩ : ∃ cb, cb = c.broken := ⟨_, rfl⟩
  rw [← hcl, ← hct, ← hcb] at hcall ⊢
  clear hcl hct hcb
  have hF : Fr [] w (((w.alloc (.cells #[.string ct, .slice a cl cap, .int .i64 cb] 33)).alloc (.cells #[.int .i64 0, .int .i64 0, .int .i64 0] 23)).alloc (.cells #[.string ct, .slice a cl cap, .int .i64 cb, .int .i64 0, .int .i64 0, .int .i64 0, .bool false] 101)) := ((Fr.alloc [] w _).alloc' _).alloc' _
  have hb00 := (Blk.new (w.alloc (.cells #[.string ct, .slice a cl cap, .int .i64 cb] 33)) #[.int .i64 0, .int .i64 0, .int .i64 0] 23).alloc (.cells #[.string ct, .slice a cl cap, .int .i64 cb, .int .i64 0, .int .i64 0, .int .i64 0, .bool false] 101)
  have hb0 := hb00
  rw [show (w.alloc (.cells #[.string ct, .slice a cl cap, .int .i64 cb] 33)).heap.size = w.heap.size + 1 by simp] at hb0
  have hs00 := Blk.new ((w.alloc (.cells #[.string ct, .slice a cl cap, .int .i64 cb] 33)).alloc (.cells #[.int .i64 0, .int .i64 0, .int .i64 0] 23)) #[.string ct, .slice a cl cap, .int .i64 cb, .int .i64 0, .int .i64 0, .int .i64 0, .bool false] 101
  have hs0 := hs00
  rw [show ((w.alloc (.cells #[.string ct, .slice a cl cap, .int .i64 cb] 33)).alloc (.cells #[.int .i64 0, .int .i64 0, .int .i64 0] 23)).heap.size = w.heap.size + 1 + 1 by simp] at hs0
  clear hb00 hs00
  have hWs : ((((w.alloc (.cells #[.string ct, .slice a cl cap, .int .i64 cb] 33)).alloc (.cells #[.int .i64 0, .int .i64 0, .int .i64 0] 23)).alloc (.cells #[.string ct, .slice a cl cap, .int .i64 cb, .int .i64 0, .int .i64 0, .int .i64 0, .bool false] 101))).heap.size = w.heap.size + 3 := by simp
  have hcl := Hid.mk2 ((hcall _ _ hs0 (hP.keep hF (by simp)) (by omega) (by omega)).out)
  have hWs' := Hid.mk2 hWs
  clear hcall hWs hP
  cases hR : c.openAll with
  | bad e0 a0 =>
    have hR' := Hid.mk2 hR
    have hal := openAll_bad hk.out hR
    have hok : OkN ((a0 : Nat) : Int) := .inr ⟨by omega, by omega⟩
    clear hR
    go_enter Tryz.func17, Tryz.ntmps17
    go_wp2_with (first
      | (go_at_call 42; (with_reducible refine (hcl.out).mono ?_); rintro e w1 hs; obtain ⟨he0, he17, v, wm, rfl, hfm, hN⟩ := hs.isBad hR'.out; have hFm : Fr [] w wm := hF.trans hfm (fun x hx => .inr (by rw [List.mem_singleton] at hx; omega)); have he1 : ((e0 : Int) != 0) = true := by simpa using he0)
      | (go_at_call 33; refine (fault_of wm e0 (-1) a0 v (by omega) he17 okn_neg hok _ (hg.keep hFm (by simp) (by simp)) hN).mono ?_; rintro e w2 ⟨rfl, hf2⟩; have hb2 := hf2.blk (hfm.blk hb0 (by simp)) (by simp); have hc2 := hb2.cell; have hz2 := hb2.frozen; have hl2 := hb2.lt; have hne2 := Nat.ne_of_lt hl2; have hne3 := Nat.ne_of_gt hl2))
    go_region
    all_goals go_wp2_with fail
    refine bodyPost_ret (results_tc rfl _ _ (w.heap.size + 1) 23 #[.int .i64 e0, .int .i64 (-1), .int .i64 a0] (0, 0) _ rfl (((((hb2.set 0 _).set 1 _).set 2 _).alloc _).drewN 1) Tryz.underlying23 rfl (by kernel_rfl)) rfl ?_
    exact .inl ⟨e0, a0, hR'.out, rfl, (((((hFm.same hf2).setNew _ (by simp)).setNew _ (by simp)).setNew _ (by simp)).alloc' _).drew'⟩
  | good a0 =>
    have hR' := Hid.mk2 hR
    clear hR
    go_enter Tryz.func17, Tryz.ntmps17
    go_wp2_with (first
      | (go_at_call 42; (with_reducible refine (hcl.out).mono ?_); rintro e w1 hs; obtain ⟨p, db, rb, hb, k0, k1, k2, S, rfl, hrd, hdc, hf1, hdb, hal⟩ := hs.isGood hR'.out)
      | (go_at_call 33; refine (fault_nil _).mono ?_; rintro e w2 ⟨rfl, hf2⟩; have hb2 := hf2.blk (hf1.blk hb0 (by simp)) (by simp); have hc2 := hb2.cell; have hz2 := hb2.frozen; have hl2 := hb2.lt; have hne2 := Nat.ne_of_lt hl2; have hne3 := Nat.ne_of_gt hl2; have hb3 := (hb2.alloc (.cells #[.int .i64 0, .int .i64 0, .int .i64 0] 23)).alloc (.cells #[.iface 176 (.pointer (some ⟨db, 0, none⟩)), .pointer (some ⟨w.heap.size + 1 + 1, 0, none⟩)] 107); have hc3 := hb3.cell; have hz3 := hb3.frozen))
    refine bodyPost_ret (results_tc rfl _ _ (w.heap.size + 1) 23 #[.int .i64 0, .int .i64 0, .int .i64 0] (0, 0) _ rfl (((hb3.set 0 _).set 1 _).set 2 _) Tryz.underlying23 rfl (by kernel_rfl)) rfl ?_
    have hFa : Fr [] w w1 := hF.trans hf1 (fun x hx => .inr (by rw [List.mem_singleton] at hx; omega))
    have hFb : Fr [] w1 ((w2.alloc (.cells #[.int .i64 0, .int .i64 0, .int .i64 0] 23)).alloc (.cells #[.iface 176 (.pointer (some ⟨db, 0, none⟩)), .pointer (some ⟨w.heap.size + 1 + 1, 0, none⟩)] 107)) := (hf2.alloc' _).alloc' _
    have hpb : Blk ((w2.alloc (.cells #[.int .i64 0, .int .i64 0, .int .i64 0] 23)).alloc (.cells #[.iface 176 (.pointer (some ⟨db, 0, none⟩)), .pointer (some ⟨w.heap.size + 1 + 1, 0, none⟩)] 107)) (w2.heap.size + 1) #[.iface 176 (.pointer (some ⟨db, 0, none⟩)), .pointer (some ⟨w.heap.size + 1 + 1, 0, none⟩)] 107 := Blk.newAt (by simp)
    have hsz := hf1.size
    have hws := hWs'.out
    have hsz2 := hf2.size
    have hFc := fr3 (w.heap.size + 1) ((w2.alloc (.cells #[.int .i64 0, .int .i64 0, .int .i64 0] 23)).alloc (.cells #[.iface 176 (.pointer (some ⟨db, 0, none⟩)), .pointer (some ⟨w.heap.size + 1 + 1, 0, none⟩)] 107)) 0 1 2 (.int .i64 0) (.int .i64 0) (.int .i64 0)
    obtain ⟨pos, left, k, hsr⟩ := hrd.src
    refine .inr ⟨a0, w2.heap.size + 1, db, rb, w.heap.size + 1 + 1, hb, k0, k1, k2, hR'.out, rfl, hFc.blk hpb (by simp; omega), ⟨pos, left, k, (hsr.keep hFb (by simp) (by simp)).keep hFc (by simp) (by simp; omega)⟩, hFc.blk (hFb.blk hdc.blk (by simp)) (by simp; omega), (hFa.same hFb).trans hFc (fun x hx => .inr (by rw [List.mem_singleton] at hx; omega)), hal⟩

end Go.Proofs.YthigfpaajbejdaaGreatDoor
