/-
  flacpairref.Open, walked: what it gives; where it is refused, where the marker does not come, where it is another.
-/
import Derived.Test.YthigfpaajbejdaaGreatDoorRefAbout
import Derived.Test.YthigfpaajbejdaaGreatDoorRefOf
import Derived.Test.YthigfpaajbejdaaGreatDoorRefuseB
namespace Go.Proofs.YthigfpaajbejdaaGreatDoor
open Go.RowKit

/-- What the document's Open gives. -/
def ROpen (c : Cfg) (R : OpenRes) (w : World) (ev : Ending) (w' : World) : Prop :=
  (∃ e at_, R = .bad e at_ ∧ ev = .returned (.tuple #[.pointer none, .agg #[.int .i64 (e : Nat), .int .i64 (-1), .int .i64 (at_ : Nat)]]) ∧ Fr [] w w') ∨
  (∃ q db sb, R = .good q ∧ ev = .returned (.tuple #[.pointer (some ⟨db, 0, none⟩), .agg #[.int .i64 0, .int .i64 0, .int .i64 0]]) ∧ DecR w' db sb c.infI (c.text.extract 26 42) (q : Nat) ∧ Fr [] w w' ∧ w.heap.size ≤ db)

set_option maxHeartbeats 400000 in
theorem rOpen_no (s : ByteArray) (a : Option Addr) (l cap : Nat) (br kind : Int) (h0 : kind ≠ 0) (h1 : kind ≠ 1) (w : World) :
    Calls Tryz.prog 18 #[.string s, .slice a l cap, .int .i64 br, .int .i64 kind] w fun ev w' => ev = .returned (.tuple #[.pointer none, .agg #[.int .i64 15, .int .i64 (-1), .int .i64 0]]) ∧ Fr [] w w' := by
  have e2 : (kind != 0) = true := by simpa using h0
  have e3 : (kind != 1) = true := by simpa using h1
  go_enter Tryz.func18, Tryz.ntmps18
  go_wp2_with fail
  refine bodyPost_ret (results_tc rfl _ _ w.heap.size 46 #[.int .i64 15, .int .i64 (-1), .int .i64 0] (0, 0) _ rfl (Blk.new w _ _) Tryz.underlying46 rfl (by kernel_rfl)) rfl ?_
  exact ⟨rfl, Fr.alloc [] w _⟩

theorem mark_no {t : ByteArray} (h : t.data.toList ≠ [102, 76, 97, 67]) : (!(t.toList == [102, 76, 97, 67])) = true := by
  rw [ByteArray.toList_eq]; simpa using h
theorem mark_yes {t : ByteArray} (h : t.data.toList = [102, 76, 97, 67]) : (!(t.toList == [102, 76, 97, 67])) = false := by
  rw [ByteArray.toList_eq, h]; rfl
theorem newAt {w : World} {n : Nat} {c : Array Value} {t : TypeId} (h : n = w.heap.size) : Blk (w.alloc (.cells c t)) n c t := by subst h; exact Blk.new w c t
/-- The document's Open has made what it needs; nothing is read yet. -/
structure ROpn (w w2 : World) (db sb rb fb : Nat) (c : Cfg) : Prop where
  rd : RefB w2 rb sb c 0 0
  dec : DecR w2 db sb (fun _ => 0) ⟨#[]⟩ 0
  flt : Blk w2 fb #[.int .i64 0, .int .i64 0, .int .i64 0] 46
  fr : Fr [] w w2
  new : w.heap.size ≤ db ∧ w.heap.size ≤ sb ∧ w.heap.size ≤ rb ∧ w.heap.size ≤ fb
theorem ROpn.mk0 {w w1 : World} {c : Cfg} (hs : StreamB w1 ((w.alloc (.cells #[.int .i64 0, .int .i64 0, .int .i64 0] 46)).alloc (.cells #[.pointer none, .int .i64 0, .int .i64 0, .int .i64 0, .int .i64 0, .int .i64 0, .int .i64 0, .int .i64 0, .int .i64 0, .string ⟨#[]⟩, .int .i64 0, .int .i64 0, .int .i64 0, .bool false, .string ⟨#[]⟩, .int .i64 0, .int .i64 0, .int .i64 0] 110)).heap.size c 0)
    (hf : Fr [] ((w.alloc (.cells #[.int .i64 0, .int .i64 0, .int .i64 0] 46)).alloc (.cells #[.pointer none, .int .i64 0, .int .i64 0, .int .i64 0, .int .i64 0, .int .i64 0, .int .i64 0, .int .i64 0, .int .i64 0, .string ⟨#[]⟩, .int .i64 0, .int .i64 0, .int .i64 0, .bool false, .string ⟨#[]⟩, .int .i64 0, .int .i64 0, .int .i64 0] 110)) w1) :
    ROpn w ((w1.setCell ⟨w.heap.size + 1, 0, none⟩ (.pointer (some ⟨w.heap.size + 1 + 1, 0, none⟩))).alloc (.cells #[.pointer (some ⟨w.heap.size + 1 + 1, 0, none⟩), .int .i64 0] 114)) (w.heap.size + 1) (w.heap.size + 1 + 1) w1.heap.size w.heap.size c := by
  have hsz : ((w.alloc (.cells #[.int .i64 0, .int .i64 0, .int .i64 0] 46)).alloc (.cells #[.pointer none, .int .i64 0, .int .i64 0, .int .i64 0, .int .i64 0, .int .i64 0, .int .i64 0, .int .i64 0, .int .i64 0, .string ⟨#[]⟩, .int .i64 0, .int .i64 0, .int .i64 0, .bool false, .string ⟨#[]⟩, .int .i64 0, .int .i64 0, .int .i64 0] 110)).heap.size = w.heap.size + 1 + 1 := by simp
  rw [hsz] at hs
  have hd0 : Blk ((w.alloc (.cells #[.int .i64 0, .int .i64 0, .int .i64 0] 46)).alloc (.cells #[.pointer none, .int .i64 0, .int .i64 0, .int .i64 0, .int .i64 0, .int .i64 0, .int .i64 0, .int .i64 0, .int .i64 0, .string ⟨#[]⟩, .int .i64 0, .int .i64 0, .int .i64 0, .bool false, .string ⟨#[]⟩, .int .i64 0, .int .i64 0, .int .i64 0] 110)) (w.heap.size + 1) #[.pointer none, .int .i64 0, .int .i64 0, .int .i64 0, .int .i64 0, .int .i64 0, .int .i64 0, .int .i64 0, .int .i64 0, .string ⟨#[]⟩, .int .i64 0, .int .i64 0, .int .i64 0, .bool false, .string ⟨#[]⟩, .int .i64 0, .int .i64 0, .int .i64 0] 110 := newAt (by simp)
  have hb0 := (Blk.new w #[.int .i64 0, .int .i64 0, .int .i64 0] 46).alloc (.cells #[.pointer none, .int .i64 0, .int .i64 0, .int .i64 0, .int .i64 0, .int .i64 0, .int .i64 0, .int .i64 0, .int .i64 0, .string ⟨#[]⟩, .int .i64 0, .int .i64 0, .int .i64 0, .bool false, .string ⟨#[]⟩, .int .i64 0, .int .i64 0, .int .i64 0] 110)
  have hF : Fr [] w w1 := ((Fr.alloc [] w _).alloc' _).same hf
  have hs1 := hf.size
  rw [hsz] at hs1
  have hd1 : Blk (w1.setCell ⟨w.heap.size + 1, 0, none⟩ (.pointer (some ⟨w.heap.size + 1 + 1, 0, none⟩))) (w.heap.size + 1) #[.pointer (some ⟨w.heap.size + 1 + 1, 0, none⟩), .int .i64 0, .int .i64 0, .int .i64 0, .int .i64 0, .int .i64 0, .int .i64 0, .int .i64 0, .int .i64 0, .string ⟨#[]⟩, .int .i64 0, .int .i64 0, .int .i64 0, .bool false, .string ⟨#[]⟩, .int .i64 0, .int .i64 0, .int .i64 0] 110 := (hf.blk hd0 (by simp)).set 0 _
  have hst : Fr [w.heap.size + 1] w1 (w1.setCell ⟨w.heap.size + 1, 0, none⟩ (.pointer (some ⟨w.heap.size + 1 + 1, 0, none⟩))) := Fr.set _ (by simp)
  refine ⟨⟨newAt (by simp [World.setCell]), (hst.blk hs.blk (by simp)).alloc _⟩, hd1.alloc _, (hst.blk (hf.blk hb0 (by simp)) (by simp)).alloc _, (hF.setNew _ (by simp)).alloc' _, by omega, by omega, by omega, Nat.le_refl _⟩

theorem ropen_fr {w w2 w3 : World} {rb sb db : Nat} (hlw : Fr [] w w2 ∧ w.heap.size ≤ db ∧ w.heap.size ≤ sb ∧ w.heap.size ≤ rb ∧ w.heap.size ≤ w.heap.size) (hf : Fr [rb, sb] w2 w3) (fb : Nat) (hfb : w.heap.size ≤ fb) (x y z : Value) :
    Fr [] w (((w3.setCell ⟨fb, 0, none⟩ x).setCell ⟨fb, 1, none⟩ y).setCell ⟨fb, 2, none⟩ z).drew := by
  refine ((((hlw.1.trans hf (fun k hk => .inr ?_)).setNew _ hfb).setNew _ hfb).setNew _ hfb).drew'
  simp only [List.mem_cons, List.not_mem_nil, or_false] at hk
  rcases hk with rfl | rfl
  · exact hlw.2.2.2.1
  · exact hlw.2.2.1
set_option maxRecDepth 100000 in
set_option maxHeartbeats 1000000 in
theorem rOpen_short0 {B : Nat} {w : World} {c : Cfg} {a : Option Addr} {cap : Nat} (hk : LimOk c) (hP : Pcs B w a c.ps) (hlen : c.len ≤ 1048576) (hL : c.lim.1 < 4) :
    Calls Tryz.prog 18 #[.string c.text, .slice a c.ps.length cap, .int .i64 c.broken, .int .i64 0] w (ROpen c (.bad (wantE c.lim.2) 0) w) := by
  have hof : ∀ W, Fr [] w W → Hid (Calls Tryz.prog 43 #[.string c.text, .slice a c.ps.length cap, .int .i64 c.broken] W (OfPost W c)) := fun W hW => of_any (hP.keep hW (by simp)) hlen
  have hF0 := (Fr.alloc [] w (.cells #[.int .i64 0, .int .i64 0, .int .i64 0] 46)).alloc' (.cells #[.pointer none, .int .i64 0, .int .i64 0, .int .i64 0, .int .i64 0, .int .i64 0, .int .i64 0, .int .i64 0, .int .i64 0, .string ⟨#[]⟩, .int .i64 0, .int .i64 0, .int .i64 0, .bool false, .string ⟨#[]⟩, .int .i64 0, .int .i64 0, .int .i64 0] 110)
  have hd0 : Blk ((w.alloc (.cells #[.int .i64 0, .int .i64 0, .int .i64 0] 46)).alloc (.cells #[.pointer none, .int .i64 0, .int .i64 0, .int .i64 0, .int .i64 0, .int .i64 0, .int .i64 0, .int .i64 0, .int .i64 0, .string ⟨#[]⟩, .int .i64 0, .int .i64 0, .int .i64 0, .bool false, .string ⟨#[]⟩, .int .i64 0, .int .i64 0, .int .i64 0] 110)) (w.heap.size + 1) #[.pointer none, .int .i64 0, .int .i64 0, .int .i64 0, .int .i64 0, .int .i64 0, .int .i64 0, .int .i64 0, .int .i64 0, .string ⟨#[]⟩, .int .i64 0, .int .i64 0, .int .i64 0, .bool false, .string ⟨#[]⟩, .int .i64 0, .int .i64 0, .int .i64 0] 110 := newAt (by simp)
  obtain ⟨ct, hct⟩ : ∃ ct, ct = c.text := ⟨_, rfl⟩
  rw [← hct] at hof ⊢
  have hct' := Hid.mk2 hct
  clear hct
  generalize c.ps.length = cl at *
  generalize c.broken = cb at *
  go_enter Tryz.func18, Tryz.ntmps18
  go_wp2_with (go_at_call 43; (with_reducible refine ((hof _ hF0).out).mono ?_); rintro e w1 ⟨rfl, hs1, hf1⟩; have hd1 := hf1.blk hd0 (by simp); have hcd1 := hd1.cell; have hzd1 := hd1.frozen; have hO := ROpn.mk0 hs1 hf1)
  clear hd0 hd1 hcd1 hzd1 hs1 hf1 hF0 hof
  generalize (w1.setCell ⟨w.heap.size + 1, 0, none⟩ (.pointer (some ⟨w.heap.size + 1 + 1, 0, none⟩))).alloc (.cells #[.pointer (some ⟨w.heap.size + 1 + 1, 0, none⟩), .int .i64 0] 114) = w2 at *
  generalize w1.heap.size = rb at *
  generalize w.heap.size + 1 + 1 = sb at *
  generalize w.heap.size + 1 = db at *
  have hlw : Hid (Fr [] w w2 ∧ w.heap.size ≤ db ∧ w.heap.size ≤ sb ∧ w.heap.size ≤ rb ∧ w.heap.size ≤ w.heap.size) := ⟨hO.fr, hO.new⟩
  have hrd := hO.rd
  have hdec := hO.dec
  have hflt := hO.flt
  clear hO
  have htx := Hid.mk2 (rText_not (q := 0) (n := 4) hk hrd (by omega) (fun _ => rfl) (z := 4) rfl (by decide) (by omega))
  have hfe : Hid (c.fal 0 = wantE c.lim.2) := rfl
  have hne := (wantE_ne hk.stop).1
  rw [hfe.out] at htx
  generalize hge : wantE c.lim.2 = E at *
  have hE1 : ((E : Int) == 0) = false := by simpa using hne
  have hE2 : ((E : Int) != 0) = true := by simpa using hne
  clear hge hne hL
  go_wp2_with (go_at_call 44; (with_reducible refine (htx.out).mono ?_); rintro e w3 ⟨t, p3, rfl, hr3, hp3, hf3⟩; have hc3 := hr3.blk.cell)
  refine wp_loop_rounds 1 ?_
  rw [rounds_succ]
  have hflt3 := hf3.blk hflt (by have h1 := hflt.ne hrd.blk (by decide); have h2 := hflt.ne hrd.doc.blk (by decide); simp; omega)
  have hcf := hflt3.cell
  have hzf := hflt3.frozen
  go_wp2_with fail
  go_region
  all_goals go_wp2_with fail
  refine bodyPost_ret (results_tc rfl _ _ w.heap.size 46 #[.int .i64 E, .int .i64 (-1), .int .i64 0] (0, 0) _ rfl ((((hflt3.set 0 _).set 1 _).set 2 _).drewN 1) Tryz.underlying46 rfl (by kernel_rfl)) rfl ?_
  exact .inl ⟨E, 0, rfl, rfl, ropen_fr hlw.out hf3 (w.heap.size) (Nat.le_refl _) _ _ _⟩

set_option maxRecDepth 100000 in
set_option maxHeartbeats 1000000 in
theorem rOpen_short1 {B : Nat} {w : World} {c : Cfg} {a : Option Addr} {cap : Nat} (hk : LimOk c) (hP : Pcs B w a c.ps) (hlen : c.len ≤ 1048576) (hL : c.lim.1 < 4) :
    Calls Tryz.prog 18 #[.string c.text, .slice a c.ps.length cap, .int .i64 c.broken, .int .i64 1] w (ROpen c (.bad (wantE c.lim.2) 0) w) := by
  have hof : ∀ W, Fr [] w W → Hid (Calls Tryz.prog 43 #[.string c.text, .slice a c.ps.length cap, .int .i64 c.broken] W (OfPost W c)) := fun W hW => of_any (hP.keep hW (by simp)) hlen
  have hF0 := (Fr.alloc [] w (.cells #[.int .i64 0, .int .i64 0, .int .i64 0] 46)).alloc' (.cells #[.pointer none, .int .i64 0, .int .i64 0, .int .i64 0, .int .i64 0, .int .i64 0, .int .i64 0, .int .i64 0, .int .i64 0, .string ⟨#[]⟩, .int .i64 0, .int .i64 0, .int .i64 0, .bool false, .string ⟨#[]⟩, .int .i64 0, .int .i64 0, .int .i64 0] 110)
  have hd0 : Blk ((w.alloc (.cells #[.int .i64 0, .int .i64 0, .int .i64 0] 46)).alloc (.cells #[.pointer none, .int .i64 0, .int .i64 0, .int .i64 0, .int .i64 0, .int .i64 0, .int .i64 0, .int .i64 0, .int .i64 0, .string ⟨#[]⟩, .int .i64 0, .int .i64 0, .int .i64 0, .bool false, .string ⟨#[]⟩, .int .i64 0, .int .i64 0, .int .i64 0] 110)) (w.heap.size + 1) #[.pointer none, .int .i64 0, .int .i64 0, .int .i64 0, .int .i64 0, .int .i64 0, .int .i64 0, .int .i64 0, .int .i64 0, .string ⟨#[]⟩, .int .i64 0, .int .i64 0, .int .i64 0, .bool false, .string ⟨#[]⟩, .int .i64 0, .int .i64 0, .int .i64 0] 110 := newAt (by simp)
  obtain ⟨ct, hct⟩ : ∃ ct, ct = c.text := ⟨_, rfl⟩
  rw [← hct] at hof ⊢
  have hct' := Hid.mk2 hct
  clear hct
  generalize c.ps.length = cl at *
  generalize c.broken = cb at *
  go_enter Tryz.func18, Tryz.ntmps18
  go_wp2_with (go_at_call 43; (with_reducible refine ((hof _ hF0).out).mono ?_); rintro e w1 ⟨rfl, hs1, hf1⟩; have hd1 := hf1.blk hd0 (by simp); have hcd1 := hd1.cell; have hzd1 := hd1.frozen; have hO := ROpn.mk0 hs1 hf1)
  clear hd0 hd1 hcd1 hzd1 hs1 hf1 hF0 hof
  generalize (w1.setCell ⟨w.heap.size + 1, 0, none⟩ (.pointer (some ⟨w.heap.size + 1 + 1, 0, none⟩))).alloc (.cells #[.pointer (some ⟨w.heap.size + 1 + 1, 0, none⟩), .int .i64 0] 114) = w2 at *
  generalize w1.heap.size = rb at *
  generalize w.heap.size + 1 + 1 = sb at *
  generalize w.heap.size + 1 = db at *
  have hlw : Hid (Fr [] w w2 ∧ w.heap.size ≤ db ∧ w.heap.size ≤ sb ∧ w.heap.size ≤ rb ∧ w.heap.size ≤ w.heap.size) := ⟨hO.fr, hO.new⟩
  have hrd := hO.rd
  have hdec := hO.dec
  have hflt := hO.flt
  clear hO
  have htx := Hid.mk2 (rText_not (q := 0) (n := 4) hk hrd (by omega) (fun _ => rfl) (z := 4) rfl (by decide) (by omega))
  have hfe : Hid (c.fal 0 = wantE c.lim.2) := rfl
  have hne := (wantE_ne hk.stop).1
  rw [hfe.out] at htx
  generalize hge : wantE c.lim.2 = E at *
  have hE1 : ((E : Int) == 0) = false := by simpa using hne
  have hE2 : ((E : Int) != 0) = true := by simpa using hne
  clear hge hne hL
  go_wp2_with (go_at_call 44; (with_reducible refine (htx.out).mono ?_); rintro e w3 ⟨t, p3, rfl, hr3, hp3, hf3⟩; have hc3 := hr3.blk.cell)
  refine wp_loop_rounds 1 ?_
  rw [rounds_succ]
  have hflt3 := hf3.blk hflt (by have h1 := hflt.ne hrd.blk (by decide); have h2 := hflt.ne hrd.doc.blk (by decide); simp; omega)
  have hcf := hflt3.cell
  have hzf := hflt3.frozen
  go_wp2_with fail
  go_region
  all_goals go_wp2_with fail
  refine bodyPost_ret (results_tc rfl _ _ w.heap.size 46 #[.int .i64 E, .int .i64 (-1), .int .i64 0] (0, 0) _ rfl ((((hflt3.set 0 _).set 1 _).set 2 _).drewN 1) Tryz.underlying46 rfl (by kernel_rfl)) rfl ?_
  exact .inl ⟨E, 0, rfl, rfl, ropen_fr hlw.out hf3 (w.heap.size) (Nat.le_refl _) _ _ _⟩

set_option maxRecDepth 100000 in
set_option maxHeartbeats 1000000 in
theorem rOpen_mark0 {B : Nat} {w : World} {c : Cfg} {a : Option Addr} {cap : Nat} (hk : LimOk c) (hP : Pcs B w a c.ps) (hlen : c.len ≤ 1048576) (hL : 4 ≤ c.lim.1) (hm : c.markText ≠ [102, 76, 97, 67]) :
    Calls Tryz.prog 18 #[.string c.text, .slice a c.ps.length cap, .int .i64 c.broken, .int .i64 0] w (ROpen c (.bad 2 0) w) := by
  have hof : ∀ W, Fr [] w W → Hid (Calls Tryz.prog 43 #[.string c.text, .slice a c.ps.length cap, .int .i64 c.broken] W (OfPost W c)) := fun W hW => of_any (hP.keep hW (by simp)) hlen
  have hF0 := (Fr.alloc [] w (.cells #[.int .i64 0, .int .i64 0, .int .i64 0] 46)).alloc' (.cells #[.pointer none, .int .i64 0, .int .i64 0, .int .i64 0, .int .i64 0, .int .i64 0, .int .i64 0, .int .i64 0, .int .i64 0, .string ⟨#[]⟩, .int .i64 0, .int .i64 0, .int .i64 0, .bool false, .string ⟨#[]⟩, .int .i64 0, .int .i64 0, .int .i64 0] 110)
  have hd0 : Blk ((w.alloc (.cells #[.int .i64 0, .int .i64 0, .int .i64 0] 46)).alloc (.cells #[.pointer none, .int .i64 0, .int .i64 0, .int .i64 0, .int .i64 0, .int .i64 0, .int .i64 0, .int .i64 0, .int .i64 0, .string ⟨#[]⟩, .int .i64 0, .int .i64 0, .int .i64 0, .bool false, .string ⟨#[]⟩, .int .i64 0, .int .i64 0, .int .i64 0] 110)) (w.heap.size + 1) #[.pointer none, .int .i64 0, .int .i64 0, .int .i64 0, .int .i64 0, .int .i64 0, .int .i64 0, .int .i64 0, .int .i64 0, .string ⟨#[]⟩, .int .i64 0, .int .i64 0, .int .i64 0, .bool false, .string ⟨#[]⟩, .int .i64 0, .int .i64 0, .int .i64 0] 110 := newAt (by simp)
  obtain ⟨ct, hct⟩ : ∃ ct, ct = c.text := ⟨_, rfl⟩
  rw [← hct] at hof ⊢
  have hct' := Hid.mk2 hct
  clear hct
  generalize c.ps.length = cl at *
  generalize c.broken = cb at *
  go_enter Tryz.func18, Tryz.ntmps18
  go_wp2_with (go_at_call 43; (with_reducible refine ((hof _ hF0).out).mono ?_); rintro e w1 ⟨rfl, hs1, hf1⟩; have hd1 := hf1.blk hd0 (by simp); have hcd1 := hd1.cell; have hzd1 := hd1.frozen; have hO := ROpn.mk0 hs1 hf1)
  clear hd0 hd1 hcd1 hzd1 hs1 hf1 hF0 hof
  generalize (w1.setCell ⟨w.heap.size + 1, 0, none⟩ (.pointer (some ⟨w.heap.size + 1 + 1, 0, none⟩))).alloc (.cells #[.pointer (some ⟨w.heap.size + 1 + 1, 0, none⟩), .int .i64 0] 114) = w2 at *
  generalize w1.heap.size = rb at *
  generalize w.heap.size + 1 + 1 = sb at *
  generalize w.heap.size + 1 = db at *
  have hlw : Hid (Fr [] w w2 ∧ w.heap.size ≤ db ∧ w.heap.size ≤ sb ∧ w.heap.size ≤ rb ∧ w.heap.size ≤ w.heap.size) := ⟨hO.fr, hO.new⟩
  have hrd := hO.rd
  have hdec := hO.dec
  have hflt := hO.flt
  clear hO
  have htx := Hid.mk2 (rText_ok (q := 0) (n := 4) hk hrd rfl (z := 4) rfl (by decide) (by omega))
  obtain ⟨t, ht⟩ : ∃ t, t = c.text.extract 0 4 := ⟨_, rfl⟩
  simp only [Nat.reduceAdd, Nat.reduceMul, Nat.zero_add, ← ht] at htx
  unfold Cfg.markText at hm
  rw [← ht] at hm
  have hmt := mark_no hm
  clear ht hm hL
  go_wp2_with (first
    | (go_at_call 44; (with_reducible refine (htx.out).mono ?_); rintro e w3 ⟨rfl, hr3, hf3⟩; have hc3 := hr3.blk.cell)
    | (go_at_call 45; (with_reducible refine (rFail_int hr3 2 (z := 2) rfl).mono ?_); rintro e w4 ⟨rfl, hr4, hf4⟩; have hc4 := hr4.blk.cell))
  refine wp_loop_rounds 1 ?_
  rw [rounds_succ]
  have hf5 : Fr [rb, sb] w2 w4 := hf3.same (hf4.mono (fun k hk => .inl (by simp at hk ⊢; omega)))
  have hflt3 := hf5.blk hflt (by have h1 := hflt.ne hrd.blk (by decide); have h2 := hflt.ne hrd.doc.blk (by decide); simp; omega)
  have hcf := hflt3.cell
  have hzf := hflt3.frozen
  go_wp2_with fail
  go_region
  all_goals go_wp2_with fail
  refine bodyPost_ret (results_tc rfl _ _ w.heap.size 46 #[.int .i64 2, .int .i64 (-1), .int .i64 0] (0, 0) _ rfl ((((hflt3.set 0 _).set 1 _).set 2 _).drewN 1) Tryz.underlying46 rfl (by kernel_rfl)) rfl ?_
  exact .inl ⟨2, 0, rfl, rfl, ropen_fr hlw.out hf5 (w.heap.size) (Nat.le_refl _) _ _ _⟩

set_option maxRecDepth 100000 in
set_option maxHeartbeats 1000000 in
theorem rOpen_mark1 {B : Nat} {w : World} {c : Cfg} {a : Option Addr} {cap : Nat} (hk : LimOk c) (hP : Pcs B w a c.ps) (hlen : c.len ≤ 1048576) (hL : 4 ≤ c.lim.1) (hm : c.markText ≠ [102, 76, 97, 67]) :
    Calls Tryz.prog 18 #[.string c.text, .slice a c.ps.length cap, .int .i64 c.broken, .int .i64 1] w (ROpen c (.bad 2 0) w) := by
  have hof : ∀ W, Fr [] w W → Hid (Calls Tryz.prog 43 #[.string c.text, .slice a c.ps.length cap, .int .i64 c.broken] W (OfPost W c)) := fun W hW => of_any (hP.keep hW (by simp)) hlen
  have hF0 := (Fr.alloc [] w (.cells #[.int .i64 0, .int .i64 0, .int .i64 0] 46)).alloc' (.cells #[.pointer none, .int .i64 0, .int .i64 0, .int .i64 0, .int .i64 0, .int .i64 0, .int .i64 0, .int .i64 0, .int .i64 0, .string ⟨#[]⟩, .int .i64 0, .int .i64 0, .int .i64 0, .bool false, .string ⟨#[]⟩, .int .i64 0, .int .i64 0, .int .i64 0] 110)
  have hd0 : Blk ((w.alloc (.cells #[.int .i64 0, .int .i64 0, .int .i64 0] 46)).alloc (.cells #[.pointer none, .int .i64 0, .int .i64 0, .int .i64 0, .int .i64 0, .int .i64 0, .int .i64 0, .int .i64 0, .int .i64 0, .string ⟨#[]⟩, .int .i64 0, .int .i64 0, .int .i64 0, .bool false, .string ⟨#[]⟩, .int .i64 0, .int .i64 0, .int .i64 0] 110)) (w.heap.size + 1) #[.pointer none, .int .i64 0, .int .i64 0, .int .i64 0, .int .i64 0, .int .i64 0, .int .i64 0, .int .i64 0, .int .i64 0, .string ⟨#[]⟩, .int .i64 0, .int .i64 0, .int .i64 0, .bool false, .string ⟨#[]⟩, .int .i64 0, .int .i64 0, .int .i64 0] 110 := newAt (by simp)
  obtain ⟨ct, hct⟩ : ∃ ct, ct = c.text := ⟨_, rfl⟩
  rw [← hct] at hof ⊢
  have hct' := Hid.mk2 hct
  clear hct
  generalize c.ps.length = cl at *
  generalize c.broken = cb at *
  go_enter Tryz.func18, Tryz.ntmps18
  go_wp2_with (go_at_call 43; (with_reducible refine ((hof _ hF0).out).mono ?_); rintro e w1 ⟨rfl, hs1, hf1⟩; have hd1 := hf1.blk hd0 (by simp); have hcd1 := hd1.cell; have hzd1 := hd1.frozen; have hO := ROpn.mk0 hs1 hf1)
  clear hd0 hd1 hcd1 hzd1 hs1 hf1 hF0 hof
  generalize (w1.setCell ⟨w.heap.size + 1, 0, none⟩ (.pointer (some ⟨w.heap.size + 1 + 1, 0, none⟩))).alloc (.cells #[.pointer (some ⟨w.heap.size + 1 + 1, 0, none⟩), .int .i64 0] 114) = w2 at *
  generalize w1.heap.size = rb at *
  generalize w.heap.size + 1 + 1 = sb at *
  generalize w.heap.size + 1 = db at *
  have hlw : Hid (Fr [] w w2 ∧ w.heap.size ≤ db ∧ w.heap.size ≤ sb ∧ w.heap.size ≤ rb ∧ w.heap.size ≤ w.heap.size) := ⟨hO.fr, hO.new⟩
  have hrd := hO.rd
  have hdec := hO.dec
  have hflt := hO.flt
  clear hO
  have htx := Hid.mk2 (rText_ok (q := 0) (n := 4) hk hrd rfl (z := 4) rfl (by decide) (by omega))
  obtain ⟨t, ht⟩ : ∃ t, t = c.text.extract 0 4 := ⟨_, rfl⟩
  simp only [Nat.reduceAdd, Nat.reduceMul, Nat.zero_add, ← ht] at htx
  unfold Cfg.markText at hm
  rw [← ht] at hm
  have hmt := mark_no hm
  clear ht hm hL
  go_wp2_with (first
    | (go_at_call 44; (with_reducible refine (htx.out).mono ?_); rintro e w3 ⟨rfl, hr3, hf3⟩; have hc3 := hr3.blk.cell)
    | (go_at_call 45; (with_reducible refine (rFail_int hr3 2 (z := 2) rfl).mono ?_); rintro e w4 ⟨rfl, hr4, hf4⟩; have hc4 := hr4.blk.cell))
  refine wp_loop_rounds 1 ?_
  rw [rounds_succ]
  have hf5 : Fr [rb, sb] w2 w4 := hf3.same (hf4.mono (fun k hk => .inl (by simp at hk ⊢; omega)))
  have hflt3 := hf5.blk hflt (by have h1 := hflt.ne hrd.blk (by decide); have h2 := hflt.ne hrd.doc.blk (by decide); simp; omega)
  have hcf := hflt3.cell
  have hzf := hflt3.frozen
  go_wp2_with fail
  go_region
  all_goals go_wp2_with fail
  refine bodyPost_ret (results_tc rfl _ _ w.heap.size 46 #[.int .i64 2, .int .i64 (-1), .int .i64 0] (0, 0) _ rfl ((((hflt3.set 0 _).set 1 _).set 2 _).drewN 1) Tryz.underlying46 rfl (by kernel_rfl)) rfl ?_
  exact .inl ⟨2, 0, rfl, rfl, ropen_fr hlw.out hf5 (w.heap.size) (Nat.le_refl _) _ _ _⟩

end Go.Proofs.YthigfpaajbejdaaGreatDoor
