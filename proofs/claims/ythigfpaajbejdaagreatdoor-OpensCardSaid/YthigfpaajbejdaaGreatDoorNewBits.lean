/-
  plain.NewBits on both kinds, walked.
-/
import Derived.Test.YthigfpaajbejdaaGreatDoorPlainBits
namespace Go.Proofs.YthigfpaajbejdaaGreatDoor
open Go.RowKit

theorem extract_nil (s : ByteArray) : s.extract 0 0 = ⟨#[]⟩ := by apply ByteArray.ext; simp [ByteArray.data_extract]
/-- A feed that has just been made. -/
theorem feed_new {B : Nat} {w : World} {fb bs : Nat} {c : Cfg} {a : Option Addr} {cap : Nat}
    (hf : Blk w fb #[.iface 99 (.pointer (some ⟨bs, 0, none⟩)), .string ⟨#[]⟩, .nilIface, .slice none 0 0, .int .i64 0] 280)
    (hs : Blk w bs #[.string c.text, .slice a c.ps.length cap, .int .i64 c.broken, .int .i64 0, .int .i64 0, .int .i64 0, .bool false] 101)
    (hP : Pcs B w a c.ps) (h1 : B ≤ fb) (h2 : B ≤ bs) (hl : c.len ≤ 1048576) (hbb : -9223372036854775808 ≤ c.broken ∧ c.broken ≤ 9223372036854775807) :
    FeedV B w fb bs c 0 0 0 0 0 0 (.slice none 0 0) [] :=
  ⟨by rw [extract_nil, errV_zero]; exact hf, SrcI.mk' h2 hs hP ⟨hl, Nat.zero_le _, fun h => by omega⟩ (Nat.zero_le _) (Nat.zero_le _) hbb, ⟨rfl, .inl ⟨rfl, rfl⟩⟩, h1, Nat.le_refl _, by rw [if_pos rfl]; unfold Cfg.from_ Cfg.lim; rw [if_pos rfl]; rfl, by decide, Nat.zero_le _⟩

theorem Blk.newAt {w : World} {n : Nat} {c : Array Value} {t : TypeId} (h : n = w.heap.size) : Blk (w.alloc (.cells c t)) n c t := by subst h; exact Blk.new w c t
set_option maxHeartbeats 400000 in
theorem bNew_s (bs : Nat) (w : World) : Calls Tryz.prog 79 #[.iface 99 (.pointer (some ⟨bs, 0, none⟩)), .int .i64 0] w fun e w' => ∃ rb fb, e = .returned (.tuple #[.iface 230 (.pointer (some ⟨rb, 0, none⟩)), .nilIface]) ∧
    Blk w' fb #[.iface 99 (.pointer (some ⟨bs, 0, none⟩)), .string ⟨#[]⟩, .nilIface, .slice none 0 0, .int .i64 0] 280 ∧ Blk w' rb #[.pointer (some ⟨fb, 0, none⟩), .int .i64 0] 232 ∧ Fr [] w w' ∧ w.heap.size ≤ rb ∧ w.heap.size ≤ fb := by
  go_enter Tryz.func79, Tryz.ntmps79
  have hb0 := Blk.new w #[.iface 99 (.pointer (some ⟨bs, 0, none⟩)), .string ⟨#[]⟩, .nilIface, .slice none 0 0, .int .i64 0] 280
  go_wp2_with (go_at_call 111; refine (feedOf_any _ _ _).mono ?_; rintro e w' ⟨rfl, rfl⟩)
  go_ret2
  exact ⟨_, w.heap.size, rfl, (hb0.alloc _).alloc _, Blk.newAt (by simp), ((Fr.alloc [] w _).alloc' _).alloc' _, by omega, Nat.le_refl _⟩
set_option maxHeartbeats 400000 in
theorem fBits_s (bs : Nat) (w : World) : Calls Tryz.prog 51 #[.iface 99 (.pointer (some ⟨bs, 0, none⟩)), .int .i64 0] w fun e w' => ∃ tb rb fb, e = .returned (.tuple #[.iface 181 (.pointer (some ⟨tb, 0, none⟩)), .nilIface]) ∧
    Blk w' fb #[.iface 99 (.pointer (some ⟨bs, 0, none⟩)), .string ⟨#[]⟩, .nilIface, .slice none 0 0, .int .i64 0] 280 ∧ Blk w' rb #[.pointer (some ⟨fb, 0, none⟩), .int .i64 0] 232 ∧ Blk w' tb #[.iface 230 (.pointer (some ⟨rb, 0, none⟩))] 183 ∧ Fr [] w w' ∧ w.heap.size ≤ rb ∧ w.heap.size ≤ fb ∧ w.heap.size ≤ tb := by
  go_enter Tryz.func51, Tryz.ntmps51
  go_wp2_with (go_at_call 79; refine (bNew_s _ _).mono ?_; rintro e w1 ⟨rb, fb, rfl, h1, h2, hf, h3, h4⟩)
  go_ret2
  exact ⟨w1.heap.size, rb, fb, rfl, h1.alloc _, h2.alloc _, Blk.new w1 _ _, hf.alloc' _, h3, h4, hf.size⟩

set_option maxHeartbeats 400000 in
theorem bNew_q (bs : Nat) (w : World) : Calls Tryz.prog 79 #[.iface 99 (.pointer (some ⟨bs, 0, none⟩)), .int .i64 1] w fun e w' => ∃ rb fb, e = .returned (.tuple #[.iface 233 (.pointer (some ⟨rb, 0, none⟩)), .nilIface]) ∧
    Blk w' fb #[.iface 99 (.pointer (some ⟨bs, 0, none⟩)), .string ⟨#[]⟩, .nilIface, .slice none 0 0, .int .i64 0] 280 ∧ Blk w' rb #[.pointer (some ⟨fb, 0, none⟩), .int .u64 0, .int .i64 0, .int .i64 0] 235 ∧ Fr [] w w' ∧ w.heap.size ≤ rb ∧ w.heap.size ≤ fb := by
  go_enter Tryz.func79, Tryz.ntmps79
  have hb0 := Blk.new w #[.iface 99 (.pointer (some ⟨bs, 0, none⟩)), .string ⟨#[]⟩, .nilIface, .slice none 0 0, .int .i64 0] 280
  go_wp2_with (go_at_call 111; refine (feedOf_any _ _ _).mono ?_; rintro e w' ⟨rfl, rfl⟩)
  go_ret2
  exact ⟨_, w.heap.size, rfl, (hb0.alloc _).alloc _, Blk.newAt (by simp), ((Fr.alloc [] w _).alloc' _).alloc' _, by omega, Nat.le_refl _⟩
set_option maxHeartbeats 400000 in
theorem fBits_q (bs : Nat) (w : World) : Calls Tryz.prog 51 #[.iface 99 (.pointer (some ⟨bs, 0, none⟩)), .int .i64 1] w fun e w' => ∃ tb rb fb, e = .returned (.tuple #[.iface 181 (.pointer (some ⟨tb, 0, none⟩)), .nilIface]) ∧
    Blk w' fb #[.iface 99 (.pointer (some ⟨bs, 0, none⟩)), .string ⟨#[]⟩, .nilIface, .slice none 0 0, .int .i64 0] 280 ∧ Blk w' rb #[.pointer (some ⟨fb, 0, none⟩), .int .u64 0, .int .i64 0, .int .i64 0] 235 ∧ Blk w' tb #[.iface 233 (.pointer (some ⟨rb, 0, none⟩))] 183 ∧ Fr [] w w' ∧ w.heap.size ≤ rb ∧ w.heap.size ≤ fb ∧ w.heap.size ≤ tb := by
  go_enter Tryz.func51, Tryz.ntmps51
  go_wp2_with (go_at_call 79; refine (bNew_q _ _).mono ?_; rintro e w1 ⟨rb, fb, rfl, h1, h2, hf, h3, h4⟩)
  go_ret2
  exact ⟨w1.heap.size, rb, fb, rfl, h1.alloc _, h2.alloc _, Blk.new w1 _ _, hf.alloc' _, h3, h4, hf.size⟩

/-- What NewBits gives. -/
def NewPost (q : Bool) (B : Nat) (c : Cfg) (w : World) (e : Ending) (w' : World) : Prop :=
  ∃ pb tb rb bs S, e = .returned (.tuple #[.pointer (some ⟨pb, 0, none⟩), .agg #[.int .i64 0, .int .i64 0, .int .i64 0]]) ∧ PB q B pb tb rb bs c w' 0 S ∧ Fr [] w w' ∧ (∀ x ∈ S, w.heap.size ≤ x) ∧ w.heap.size ≤ pb ∧ w.heap.size ≤ tb

set_option maxRecDepth 100000 in
set_option maxHeartbeats 2000000 in
theorem newBits_s {B : Nat} {w : World} {c : Cfg} {a : Option Addr} {cap : Nat} (hP : Pcs B w a c.ps) (hB : B ≤ w.heap.size) (hl : c.len ≤ 1048576) (hbb : -9223372036854775808 ≤ c.broken ∧ c.broken ≤ 9223372036854775807) :
    Calls Tryz.prog 21 #[.agg #[.string c.text, .slice a c.ps.length cap, .int .i64 c.broken], .int .i64 0] w (NewPost false B c w) := by
  have hbb' := Hid.mk hbb
  have hlen := Hid.mk hl
  clear hbb hl
  obtain ⟨cl, hcl⟩ : ∃ cl, cl = c.ps.length := ⟨_, rfl⟩
  obtain ⟨ct, hct⟩ : ∃ ct, ct = c.text := ⟨_, rfl⟩
  obtain ⟨cb, hcb⟩ : ∃ cb, cb = c.broken := ⟨_, rfl⟩
  rw [← hcl, ← hct, ← hcb]
  have hE : Hid (cl = c.ps.length ∧ ct = c.text ∧ cb = c.broken) := ⟨hcl, hct, hcb⟩
  clear hcl hct hcb
  have hF : Fr [] w (((w.alloc (.cells #[.string ct, .slice a cl cap, .int .i64 cb] 33)).alloc (.cells #[.int .i64 0, .int .i64 0, .int .i64 0] 23)).alloc (.cells #[.string ct, .slice a cl cap, .int .i64 cb, .int .i64 0, .int .i64 0, .int .i64 0, .bool false] 101)) := ((Fr.alloc [] w _).alloc' _).alloc' _
  have hb00 := (Blk.new (w.alloc (.cells #[.string ct, .slice a cl cap, .int .i64 cb] 33)) #[.int .i64 0, .int .i64 0, .int .i64 0] 23).alloc (.cells #[.string ct, .slice a cl cap, .int .i64 cb, .int .i64 0, .int .i64 0, .int .i64 0, .bool false] 101)
  have hb0 := hb00
  rw [show (w.alloc (.cells #[.string ct, .slice a cl cap, .int .i64 cb] 33)).heap.size = w.heap.size + 1 by simp] at hb0
  have hs00 := Blk.new ((w.alloc (.cells #[.string ct, .slice a cl cap, .int .i64 cb] 33)).alloc (.cells #[.int .i64 0, .int .i64 0, .int .i64 0] 23)) #[.string ct, .slice a cl cap, .int .i64 cb, .int .i64 0, .int .i64 0, .int .i64 0, .bool false] 101
  have hs0 := hs00
  rw [show ((w.alloc (.cells #[.string ct, .slice a cl cap, .int .i64 cb] 33)).alloc (.cells #[.int .i64 0, .int .i64 0, .int .i64 0] 23)).heap.size = w.heap.size + 2 by simp] at hs0
  clear hb00 hs00
  go_enter Tryz.func21, Tryz.ntmps21
  go_wp2_with (first
    | (go_at_call 51; refine (fBits_s _ _).mono ?_; rintro e w1 ⟨tb, rb, fb, rfl, hfe, hrd, htd, hf1, hr1, hr2, hr3⟩)
    | (go_at_call 33; refine (fault_nil _).mono ?_; rintro e w2 ⟨rfl, hf2⟩; have hb2 := (hf1.same hf2).blk hb0 (by simp); have hc2 := hb2.cell; have hz2 := hb2.frozen; have hl2 := hb2.lt; have hne2 := Nat.ne_of_lt hl2; have hne3 := Nat.ne_of_gt hl2; have hb3 := (hb2.alloc (.cells #[.int .i64 0, .int .i64 0, .int .i64 0] 23)).alloc (.cells #[.iface 181 (.pointer (some ⟨tb, 0, none⟩)), .pointer (some ⟨w.heap.size + 1 + 1, 0, none⟩)] 127); have hc3 := hb3.cell; have hz3 := hb3.frozen))
  obtain ⟨e1, e2, e3⟩ := hE.out
  refine bodyPost_ret (results_tc rfl _ _ (w.heap.size + 1) 23 #[.int .i64 0, .int .i64 0, .int .i64 0] (0, 0) _ rfl (((hb3.set 0 _).set 1 _).set 2 _) Tryz.underlying23 rfl (by kernel_rfl)) rfl ?_
  have hFa : Fr [] w w1 := hF.same hf1
  have hFb : Fr [] w1 (((w2.alloc (.cells #[.int .i64 0, .int .i64 0, .int .i64 0] 23)).alloc (.cells #[.iface 181 (.pointer (some ⟨tb, 0, none⟩)), .pointer (some ⟨w.heap.size + 1 + 1, 0, none⟩)] 127))) := (hf2.alloc' _).alloc' _
  have hs1 := hf1.blk hs0 (by simp)
  rw [e1, e2, e3] at hs1
  have hpb : Blk (((w2.alloc (.cells #[.int .i64 0, .int .i64 0, .int .i64 0] 23)).alloc (.cells #[.iface 181 (.pointer (some ⟨tb, 0, none⟩)), .pointer (some ⟨w.heap.size + 1 + 1, 0, none⟩)] 127))) (w2.heap.size + 1) #[.iface 181 (.pointer (some ⟨tb, 0, none⟩)), .pointer (some ⟨w.heap.size + 1 + 1, 0, none⟩)] 127 := Blk.newAt (by simp)
  have hsz : w.heap.size + 3 ≤ w1.heap.size := by have := hf1.size; simp at this; omega
  have hr1' : w.heap.size + 3 ≤ rb := by simp at hr1; omega
  have hr2' : w.heap.size + 3 ≤ fb := by simp at hr2; omega
  have hr3' : w.heap.size + 3 ≤ tb := by simp at hr3; omega
  have hrl := hrd.lt
  have hfl := hfe.lt
  have htl := htd.lt
  have hs2 := hf2.size
  have hfd := feed_new (a := a) (cap := cap) hfe hs1 (hP.keep hFa (by simp)) (Nat.le_trans hB (by omega)) (Nat.le_trans hB (by omega)) hlen.out hbb'.out
  have hS : RdS false B w1 rb (w.heap.size + 2) c 0 [rb, fb, w.heap.size + 2] := ⟨fb, 0, 0, 0, 0, 0, 0, _, _, ⟨hrd, hfd, Nat.le_trans hB (by omega), by decide⟩, rfl, Nat.zero_le _, rfl⟩
  have hP0 : PB false B (w2.heap.size + 1) tb rb (w.heap.size + 2) c ((w2.alloc (.cells #[.int .i64 0, .int .i64 0, .int .i64 0] 23)).alloc (.cells #[.iface 181 (.pointer (some ⟨tb, 0, none⟩)), .pointer (some ⟨w.heap.size + 1 + 1, 0, none⟩)] 127)) 0 [rb, fb, w.heap.size + 2] :=
    ⟨hpb, hFb.blk htd (by simp), hS.still hFb, by simp; omega, by simp; exact ⟨htd.ne hrd (by decide), htd.ne hfe (by decide), by omega⟩⟩
  refine ⟨w2.heap.size + 1, tb, rb, w.heap.size + 2, _, rfl, hP0.keep (T := [w.heap.size + 1]) (fr3 (w.heap.size + 1) _ 0 1 2 _ _ _) (by simp; omega) (by simp; omega) (by simp; omega) (by simp; omega), ?_, by simp; omega, by omega, by omega⟩
  exact (hFa.same hFb).trans (fr3 (w.heap.size + 1) _ 0 1 2 _ _ _) (fun k hk => .inr (by rw [List.mem_singleton] at hk; omega))

set_option maxRecDepth 100000 in
set_option maxHeartbeats 2000000 in
theorem newBits_q {B : Nat} {w : World} {c : Cfg} {a : Option Addr} {cap : Nat} (hP : Pcs B w a c.ps) (hB : B ≤ w.heap.size) (hl : c.len ≤ 1048576) (hbb : -9223372036854775808 ≤ c.broken ∧ c.broken ≤ 9223372036854775807) :
    Calls Tryz.prog 21 #[.agg #[.string c.text, .slice a c.ps.length cap, .int .i64 c.broken], .int .i64 1] w (NewPost true B c w) := by
  have hbb' := Hid.mk hbb
  have hlen := Hid.mk hl
  clear hbb hl
  obtain ⟨cl, hcl⟩ : ∃ cl, cl = c.ps.length := ⟨_, rfl⟩
  obtain ⟨ct, hct⟩ : ∃ ct, ct = c.text := ⟨_, rfl⟩
  obtain ⟨cb, hcb⟩ : ∃ cb, cb = c.broken := ⟨_, rfl⟩
  rw [← hcl, ← hct, ← hcb]
  have hE : Hid (cl = c.ps.length ∧ ct = c.text ∧ cb = c.broken) := ⟨hcl, hct, hcb⟩
  clear hcl hct hcb
  have hF : Fr [] w (((w.alloc (.cells #[.string ct, .slice a cl cap, .int .i64 cb] 33)).alloc (.cells #[.int .i64 0, .int .i64 0, .int .i64 0] 23)).alloc (.cells #[.string ct, .slice a cl cap, .int .i64 cb, .int .i64 0, .int .i64 0, .int .i64 0, .bool false] 101)) := ((Fr.alloc [] w _).alloc' _).alloc' _
  have hb00 := (Blk.new (w.alloc (.cells #[.string ct, .slice a cl cap, .int .i64 cb] 33)) #[.int .i64 0, .int .i64 0, .int .i64 0] 23).alloc (.cells #[.string ct, .slice a cl cap, .int .i64 cb, .int .i64 0, .int .i64 0, .int .i64 0, .bool false] 101)
  have hb0 := hb00
  rw [show (w.alloc (.cells #[.string ct, .slice a cl cap, .int .i64 cb] 33)).heap.size = w.heap.size + 1 by simp] at hb0
  have hs00 := Blk.new ((w.alloc (.cells #[.string ct, .slice a cl cap, .int .i64 cb] 33)).alloc (.cells #[.int .i64 0, .int .i64 0, .int .i64 0] 23)) #[.string ct, .slice a cl cap, .int .i64 cb, .int .i64 0, .int .i64 0, .int .i64 0, .bool false] 101
  have hs0 := hs00
  rw [show ((w.alloc (.cells #[.string ct, .slice a cl cap, .int .i64 cb] 33)).alloc (.cells #[.int .i64 0, .int .i64 0, .int .i64 0] 23)).heap.size = w.heap.size + 2 by simp] at hs0
  clear hb00 hs00
  go_enter Tryz.func21, Tryz.ntmps21
  go_wp2_with (first
    | (go_at_call 51; refine (fBits_q _ _).mono ?_; rintro e w1 ⟨tb, rb, fb, rfl, hfe, hrd, htd, hf1, hr1, hr2, hr3⟩)
    | (go_at_call 33; refine (fault_nil _).mono ?_; rintro e w2 ⟨rfl, hf2⟩; have hb2 := (hf1.same hf2).blk hb0 (by simp); have hc2 := hb2.cell; have hz2 := hb2.frozen; have hl2 := hb2.lt; have hne2 := Nat.ne_of_lt hl2; have hne3 := Nat.ne_of_gt hl2; have hb3 := (hb2.alloc (.cells #[.int .i64 0, .int .i64 0, .int .i64 0] 23)).alloc (.cells #[.iface 181 (.pointer (some ⟨tb, 0, none⟩)), .pointer (some ⟨w.heap.size + 1 + 1, 0, none⟩)] 127); have hc3 := hb3.cell; have hz3 := hb3.frozen))
  obtain ⟨e1, e2, e3⟩ := hE.out
  refine bodyPost_ret (results_tc rfl _ _ (w.heap.size + 1) 23 #[.int .i64 0, .int .i64 0, .int .i64 0] (0, 0) _ rfl (((hb3.set 0 _).set 1 _).set 2 _) Tryz.underlying23 rfl (by kernel_rfl)) rfl ?_
  have hFa : Fr [] w w1 := hF.same hf1
  have hFb : Fr [] w1 (((w2.alloc (.cells #[.int .i64 0, .int .i64 0, .int .i64 0] 23)).alloc (.cells #[.iface 181 (.pointer (some ⟨tb, 0, none⟩)), .pointer (some ⟨w.heap.size + 1 + 1, 0, none⟩)] 127))) := (hf2.alloc' _).alloc' _
  have hs1 := hf1.blk hs0 (by simp)
  rw [e1, e2, e3] at hs1
  have hpb : Blk (((w2.alloc (.cells #[.int .i64 0, .int .i64 0, .int .i64 0] 23)).alloc (.cells #[.iface 181 (.pointer (some ⟨tb, 0, none⟩)), .pointer (some ⟨w.heap.size + 1 + 1, 0, none⟩)] 127))) (w2.heap.size + 1) #[.iface 181 (.pointer (some ⟨tb, 0, none⟩)), .pointer (some ⟨w.heap.size + 1 + 1, 0, none⟩)] 127 := Blk.newAt (by simp)
  have hsz : w.heap.size + 3 ≤ w1.heap.size := by have := hf1.size; simp at this; omega
  have hr1' : w.heap.size + 3 ≤ rb := by simp at hr1; omega
  have hr2' : w.heap.size + 3 ≤ fb := by simp at hr2; omega
  have hr3' : w.heap.size + 3 ≤ tb := by simp at hr3; omega
  have hrl := hrd.lt
  have hfl := hfe.lt
  have htl := htd.lt
  have hs2 := hf2.size
  have hfd := feed_new (a := a) (cap := cap) hfe hs1 (hP.keep hFa (by simp)) (Nat.le_trans hB (by omega)) (Nat.le_trans hB (by omega)) hlen.out hbb'.out
  have hS : RdS true B w1 rb (w.heap.size + 2) c 0 [rb, fb, w.heap.size + 2] := ⟨fb, 0, 0, 0, 0, 0, 0, _, _, ⟨by rw [c.res_none 0 0 rfl]; exact hrd, hfd, Nat.le_trans hB (by omega), rfl, by decide, Nat.le_refl _⟩, rfl⟩
  have hP0 : PB true B (w2.heap.size + 1) tb rb (w.heap.size + 2) c ((w2.alloc (.cells #[.int .i64 0, .int .i64 0, .int .i64 0] 23)).alloc (.cells #[.iface 181 (.pointer (some ⟨tb, 0, none⟩)), .pointer (some ⟨w.heap.size + 1 + 1, 0, none⟩)] 127)) 0 [rb, fb, w.heap.size + 2] :=
    ⟨hpb, hFb.blk htd (by simp), hS.still hFb, by simp; omega, by simp; exact ⟨htd.ne hrd (by decide), htd.ne hfe (by decide), by omega⟩⟩
  refine ⟨w2.heap.size + 1, tb, rb, w.heap.size + 2, _, rfl, hP0.keep (T := [w.heap.size + 1]) (fr3 (w.heap.size + 1) _ 0 1 2 _ _ _) (by simp; omega) (by simp; omega) (by simp; omega) (by simp; omega), ?_, by simp; omega, by omega, by omega⟩
  exact (hFa.same hFb).trans (fr3 (w.heap.size + 1) _ 0 1 2 _ _ _) (fun k hk => .inr (by rw [List.mem_singleton] at hk; omega))

end Go.Proofs.YthigfpaajbejdaaGreatDoor
