/-
  Both readers as one; flac.told, walked.
-/
import Derived.Test.YthigfpaajbejdaaGreatDoorFastUnary
import Derived.Test.YthigfpaajbejdaaGreatDoorRefuseB
namespace Go.Proofs.YthigfpaajbejdaaGreatDoor
open Go.RowKit

section
variable {B : Nat} {w w' : World} {rb bs : Nat} {c : Cfg} {p : Nat} {S T : List Nat}
theorem SlowS.keep (h : SlowS B w rb bs c p S) (hf : Fr T w w') (hT : ∀ x ∈ S, x ∉ T) (hB : ∀ x ∈ T, B ≤ x) : SlowS B w' rb bs c p S := by
  obtain ⟨fb, tk, kk, ft, left, k, err, v, xs, h, h1, h2, rfl⟩ := h
  exact ⟨fb, tk, kk, ft, left, k, err, v, xs, ⟨hf.blk h.blk (hT _ (by simp)), h.feed.keep hf (hT _ (by simp)) (hT _ (by simp)) (fun g hg => hT _ (by simp [hg])) hB, h.above, h.lt⟩, h1, h2, rfl⟩
theorem FastS.keep (h : FastS B w rb bs c p S) (hf : Fr T w w') (hT : ∀ x ∈ S, x ∉ T) (hB : ∀ x ∈ T, B ≤ x) : FastS B w' rb bs c p S := by
  obtain ⟨fb, tk, kk, ft, left, k, err, v, xs, h, rfl⟩ := h
  exact ⟨fb, tk, kk, ft, left, k, err, v, xs, ⟨hf.blk h.blk (hT _ (by simp)), h.feed.keep hf (hT _ (by simp)) (hT _ (by simp)) (fun g hg => hT _ (by simp [hg])) hB, h.above, h.pos, h.n64, h.inft⟩, rfl⟩
theorem FeedV.own_lt {fb tk ft left k err emp : Nat} {v : Value} {xs : List Value} (h : FeedV B w fb bs c tk ft left k err emp v xs) : ∀ g ∈ v.ownBlock.toList, g < w.heap.size := fun g hg => by
  have hg' : v.ownBlock = some g := by simpa using hg
  rcases h.own.2 with ⟨rfl, _⟩ | ⟨g0, cap, cur, rfl, hb, hh, _⟩
  · cases hg'
  · have : g0 = g := Option.some.inj hg'
    exact this ▸ (Array.getElem?_eq_some_iff.1 hh).1
theorem FeedV.all {rb fb tk ft left k err emp : Nat} {v : Value} {xs : List Value} (h : FeedV B w fb bs c tk ft left k err emp v xs) (h1 : B ≤ rb) (h2 : rb < w.heap.size) : ∀ x ∈ rb :: fb :: bs :: v.ownBlock.toList, B ≤ x ∧ x < w.heap.size := by
  intro x hx
  obtain ⟨a, cap, hb, _⟩ := h.src.row
  simp only [List.mem_cons] at hx
  rcases hx with rfl | rfl | rfl | hx
  · exact ⟨h1, h2⟩
  · exact ⟨h.above, h.blk.lt⟩
  · exact ⟨h.src.above, hb.lt⟩
  · exact ⟨h.own_above x hx, h.own_lt x hx⟩
end

/-- A reader of either kind (q: the quick one). -/
def RdS (q : Bool) (B : Nat) (w : World) (rb bs : Nat) (c : Cfg) (p : Nat) (S : List Nat) : Prop :=
  match q with
  | true => FastS B w rb bs c p S
  | false => SlowS B w rb bs c p S
def rdT (q : Bool) : Nat := match q with | true => 233 | false => 230
def rdRead (q : Bool) : Nat := match q with | true => 255 | false => 246
theorem rd_meth_Read (q : Bool) (a : Addr) (w : World) : (Go.method 464 (rdT q) (.pointer (some a)) "Read").run Tryz.prog w = .ok (rdRead q, .pointer (some a)) w := by
  cases q <;> kernel_rfl
def rdUnary (q : Bool) : Nat := match q with | true => 256 | false => 247
theorem rd_meth_Unary (q : Bool) (a : Addr) (w : World) : (Go.method 464 (rdT q) (.pointer (some a)) "Unary").run Tryz.prog w = .ok (rdUnary q, .pointer (some a)) w := by
  cases q <;> kernel_rfl
def rdAlign (q : Bool) : Nat := match q with | true => 253 | false => 244
theorem rd_meth_Align (q : Bool) (a : Addr) (w : World) : (Go.method 464 (rdT q) (.pointer (some a)) "Align").run Tryz.prog w = .ok (rdAlign q, .pointer (some a)) w := by
  cases q <;> kernel_rfl
def rdAt (q : Bool) : Nat := match q with | true => 254 | false => 245
theorem rd_meth_At (q : Bool) (a : Addr) (w : World) : (Go.method 464 (rdT q) (.pointer (some a)) "At").run Tryz.prog w = .ok (rdAt q, .pointer (some a)) w := by
  cases q <;> kernel_rfl

section
variable {q : Bool} {B : Nat} {w w' : World} {rb bs : Nat} {c : Cfg} {p : Nat} {S T : List Nat}
theorem RdS.keep (h : RdS q B w rb bs c p S) (hf : Fr T w w') (hT : ∀ x ∈ S, x ∉ T) (hB : ∀ x ∈ T, B ≤ x) : RdS q B w' rb bs c p S := by
  cases q
  · exact SlowS.keep h hf hT hB
  · exact FastS.keep h hf hT hB
theorem RdS.still (h : RdS q B w rb bs c p S) (hf : Fr [] w w') : RdS q B w' rb bs c p S := h.keep hf (by simp) (by simp)
/-- What holds of the reader's feed. -/
theorem RdS.feed (h : RdS q B w rb bs c p S) : ∃ fb tk ft left k err v xs, FeedV B w fb bs c tk ft left k err 0 v xs ∧ B ≤ rb ∧ rb < w.heap.size ∧ S = rb :: fb :: bs :: v.ownBlock.toList ∧ p ≤ 8 * c.lim.1 := by
  cases q
  · obtain ⟨fb, tk, kk, ft, left, k, err, v, xs, h, h1, h2, rfl⟩ := h
    exact ⟨fb, tk, ft, left, k, err, v, xs, h.feed, h.above, h.blk.lt, rfl, h2⟩
  · obtain ⟨fb, tk, n, ft, left, k, err, v, xs, h, rfl⟩ := h
    have := h.lim
    exact ⟨fb, tk, ft, left, k, err, v, xs, h.feed, h.above, h.blk.lt, rfl, by omega⟩
theorem RdS.all (h : RdS q B w rb bs c p S) : ∀ x ∈ S, B ≤ x ∧ x < w.heap.size := by
  obtain ⟨fb, tk, ft, left, k, err, v, xs, hv, h1, h2, rfl, _⟩ := h.feed
  exact hv.all h1 h2
theorem RdS.lim (h : RdS q B w rb bs c p S) : p ≤ 8 * c.lim.1 ∧ c.lim.1 ≤ c.len ∧ c.len ≤ 1048576 := by
  obtain ⟨fb, tk, ft, left, k, err, v, xs, hv, h1, h2, _, h3⟩ := h.feed
  exact ⟨h3, hv.lim_len, hv.ft_le.2⟩
theorem RdS.mem_bs (h : RdS q B w rb bs c p S) : bs ∈ S := by
  obtain ⟨fb, tk, ft, left, k, err, v, xs, hv, h1, h2, rfl, h3⟩ := h.feed
  simp
theorem RdS.src (h : RdS q B w rb bs c p S) : ∃ pos left k, SrcI B w bs c pos left k := by
  obtain ⟨fb, tk, ft, left, k, err, v, xs, hv, _⟩ := h.feed
  exact ⟨_, _, _, hv.src⟩
theorem rdRead_ok (h : RdS q B w rb bs c p S) (n : Nat) (hn : n ≤ 64) (hp : p + n ≤ 8 * c.lim.1) :
    Calls Tryz.prog (rdRead q) #[.pointer (some ⟨rb, 0, none⟩), .int .i64 n] w fun e w' => e = .returned (.tuple #[.int .u64 (c.bits p n), .nilIface]) ∧ Moved (RdS q B · rb bs c) w S (p + n) w' := by
  cases q
  · exact sRead_ok h n hn hp
  · exact qRead_ok h n hn hp
theorem rdRead_not (h : RdS q B w rb bs c p S) (n : Nat) (hn : n ≤ 64) (hp : 8 * c.lim.1 < p + n) (hl : wantE c.lim.2 ≠ 0) :
    Calls Tryz.prog (rdRead q) #[.pointer (some ⟨rb, 0, none⟩), .int .i64 n] w fun e w' => e = .returned (.tuple #[.int .u64 0, .iface (errT (wantE c.lim.2)) (.int .i64 (errN (wantE c.lim.2)))]) ∧ Moved (RdS q B · rb bs c) w S p w' := by
  cases q
  · exact sRead_not h n hn hp hl
  · exact qRead_not h n hn hp hl
theorem rdRead_arg (h : RdS q B w rb bs c p S) (n : Int) (hn : n < 0 ∨ 64 < n) :
    Calls Tryz.prog (rdRead q) #[.pointer (some ⟨rb, 0, none⟩), .int .i64 n] w fun e w' => e = .returned (.tuple #[.int .u64 0, .iface (errT 15) (.int .i64 (errN 15))]) ∧ Moved (RdS q B · rb bs c) w S p w' := by
  cases q
  · refine (sRead_arg n hn w).mono ?_
    rintro e w' ⟨rfl, rfl⟩
    exact ⟨rfl, Fr.refl _ _, S, h, fun x hx => .inl hx⟩
  · refine (qRead_arg n hn w).mono ?_
    rintro e w' ⟨rfl, rfl⟩
    exact ⟨rfl, Fr.refl _ _, S, h, fun x hx => .inl hx⟩
theorem rdUnary_ok (h : RdS q B w rb bs c p S) (n : Nat) (hu : c.una p n) (hp : p + n < 8 * c.lim.1) :
    Calls Tryz.prog (rdUnary q) #[.pointer (some ⟨rb, 0, none⟩)] w fun e w' => e = .returned (.tuple #[.int .i64 n, .nilIface]) ∧ Moved (RdS q B · rb bs c) w S (p + n + 1) w' := by
  cases q
  · exact sUnary_ok h n hu hp
  · exact qUnary_ok h n hu hp
theorem rdUnary_not (h : RdS q B w rb bs c p S) (hu : c.bits p (8 * c.lim.1 - p) = 0) (hl : wantE c.lim.2 ≠ 0) :
    Calls Tryz.prog (rdUnary q) #[.pointer (some ⟨rb, 0, none⟩)] w fun e w' => e = .returned (.tuple #[.int .i64 0, .iface (errT (wantE c.lim.2)) (.int .i64 (errN (wantE c.lim.2)))]) ∧ Moved (RdS q B · rb bs c) w S p w' := by
  cases q
  · exact sUnary_not h hu hl
  · exact qUnary_not h hu hl
theorem rdAlign_any (h : RdS q B w rb bs c p S) :
    Calls Tryz.prog (rdAlign q) #[.pointer (some ⟨rb, 0, none⟩)] w fun e w' => e = .returned (.tuple #[.bool (decide (c.bits p (toEnd p) = 0)), .nilIface]) ∧ Moved (RdS q B · rb bs c) w S (p + toEnd p) w' := by
  cases q
  · exact sAlign_any h
  · exact qAlign_any h
theorem rdAt_any (h : RdS q B w rb bs c p S) :
    Calls Tryz.prog (rdAt q) #[.pointer (some ⟨rb, 0, none⟩)] w fun e w' => e = .returned (.int .i64 p) ∧ ∃ n, w' = w.drewN n := by
  cases q
  · obtain ⟨fb, tk, kk, ft, left, k, err, v, xs, h, rfl, h2, rfl⟩ := h
    exact sAt_any h
  · obtain ⟨fb, tk, n, ft, left, k, err, v, xs, h, rfl⟩ := h
    exact qAt_any h
end

/-- The told reader stands in block tb. -/
def ToldB (q : Bool) (w : World) (tb rb : Nat) : Prop := Blk w tb #[.iface (rdT q) (.pointer (some ⟨rb, 0, none⟩))] 183

set_option maxHeartbeats 400000 in
theorem wrap_nil (tb : Nat) (w : World) : Calls Tryz.prog 234 #[.pointer (some ⟨tb, 0, none⟩), .nilIface] w fun e w' => e = .returned .nilIface ∧ w = w' := by
  go_enter Tryz.func234, Tryz.ntmps234
  go_wp2_with fail
  go_ret
  exact ⟨rfl, rfl⟩
theorem tAt_s {B : Nat} {w : World} {tb rb bs : Nat} {c : Cfg} {p : Nat} {S : List Nat} (ht : Blk w tb #[.iface 230 (.pointer (some ⟨rb, 0, none⟩))] 183) (h : RdS false B w rb bs c p S) :
    Calls Tryz.prog 231 #[.pointer (some ⟨tb, 0, none⟩)] w fun e w' => e = .returned (.int .i64 p) ∧ ∃ n, w' = w.drewN n := by
  have hm : ∀ (a : Addr) (w : World), (Go.method 464 230 (.pointer (some a)) "At").run Tryz.prog w = .ok (245, .pointer (some a)) w := fun a w => by kernel_rfl
  have hc := ht.cell
  have hcall : Calls Tryz.prog 245 #[.pointer (some ⟨rb, 0, none⟩)] w fun e w' => e = .returned (.int .i64 p) ∧ ∃ n, w' = w.drewN n := rdAt_any h
  go_enter Tryz.func231, Tryz.ntmps231
  go_wp2_with (go_at_call 245; refine hcall.mono ?_; rintro e w1 ⟨rfl, n1, rfl⟩)
  go_ret
  exact ⟨rfl, n1, rfl⟩
theorem tAt_q {B : Nat} {w : World} {tb rb bs : Nat} {c : Cfg} {p : Nat} {S : List Nat} (ht : Blk w tb #[.iface 233 (.pointer (some ⟨rb, 0, none⟩))] 183) (h : RdS true B w rb bs c p S) :
    Calls Tryz.prog 231 #[.pointer (some ⟨tb, 0, none⟩)] w fun e w' => e = .returned (.int .i64 p) ∧ ∃ n, w' = w.drewN n := by
  have hm : ∀ (a : Addr) (w : World), (Go.method 464 233 (.pointer (some a)) "At").run Tryz.prog w = .ok (254, .pointer (some a)) w := fun a w => by kernel_rfl
  have hc := ht.cell
  have hcall : Calls Tryz.prog 254 #[.pointer (some ⟨rb, 0, none⟩)] w fun e w' => e = .returned (.int .i64 p) ∧ ∃ n, w' = w.drewN n := rdAt_any h
  go_enter Tryz.func231, Tryz.ntmps231
  go_wp2_with (go_at_call 254; refine hcall.mono ?_; rintro e w1 ⟨rfl, n1, rfl⟩)
  go_ret
  exact ⟨rfl, n1, rfl⟩
theorem tAt_any {q : Bool} {B : Nat} {w : World} {tb rb bs : Nat} {c : Cfg} {p : Nat} {S : List Nat} (ht : ToldB q w tb rb) (h : RdS q B w rb bs c p S) :
    Calls Tryz.prog 231 #[.pointer (some ⟨tb, 0, none⟩)] w fun e w' => e = .returned (.int .i64 p) ∧ ∃ n, w' = w.drewN n := by
  cases q
  · exact tAt_s ht h
  · exact tAt_q ht h
theorem codeV_errV {k : Nat} (_h : k ≠ 0) (h' : k < 17) : codeV k = .iface (errT k) (.int .i64 (errN k)) := by
  unfold codeV codeT codeN errT errN
  by_cases h16 : k = 16
  · subst h16; rfl
  · rw [if_pos (by omega), if_pos (by omega), if_neg h16, if_neg h16]
set_option maxHeartbeats 400000 in
theorem wrap_s {B : Nat} {w : World} {tb rb bs : Nat} {c : Cfg} {p : Nat} {S : List Nat} (ht : Blk w tb #[.iface 230 (.pointer (some ⟨rb, 0, none⟩))] 183) (h : RdS false B w rb bs c p S) (k : Nat) (hk : k ≠ 0) (hk2 : k < 17) :
    Calls Tryz.prog 234 #[.pointer (some ⟨tb, 0, none⟩), .iface (errT k) (.int .i64 (errN k))] w fun e w' => ∃ v, e = .returned v ∧ NewErr w k (-1) (p / 8 : Nat) v w' := by
  have hm : ∀ (a : Addr) (w : World), (Go.method 464 230 (.pointer (some a)) "At").run Tryz.prog w = .ok (245, .pointer (some a)) w := fun a w => by kernel_rfl
  have hc := ht.cell
  have hcall : Calls Tryz.prog 245 #[.pointer (some ⟨rb, 0, none⟩)] w fun e w' => e = .returned (.int .i64 p) ∧ ∃ n, w' = w.drewN n := rdAt_any h
  have hle := h.lim
  have hsm : p ≤ 8388608 := by omega
  obtain ⟨hh, hlf⟩ := errV_leaf hk
  have hln := hlf.nil
  have hcode := Hid.mk (codeV_errV hk hk2)
  generalize errT k = et at *
  generalize errN k = en at *
  clear hle hlf
  go_enter Tryz.func234, Tryz.ntmps234
  go_wp2_with (go_at_call 245; refine hcall.mono ?_; rintro e w1 ⟨rfl, n1, rfl⟩)
  go_ret
  refine ⟨_, rfl, (w.drewN n1).heap.size, rfl, ⟨(Blk.new (w.drewN n1) _ _).cell 0, (Blk.new (w.drewN n1) _ _).cell 1, ?_⟩, (Fr.drewN [] w n1).alloc' _, by simp [World.drewN]⟩
  rw [hcode.out]
  exact (Blk.new (w.drewN n1) _ _).cell 2
set_option maxHeartbeats 400000 in
theorem wrap_q {B : Nat} {w : World} {tb rb bs : Nat} {c : Cfg} {p : Nat} {S : List Nat} (ht : Blk w tb #[.iface 233 (.pointer (some ⟨rb, 0, none⟩))] 183) (h : RdS true B w rb bs c p S) (k : Nat) (hk : k ≠ 0) (hk2 : k < 17) :
    Calls Tryz.prog 234 #[.pointer (some ⟨tb, 0, none⟩), .iface (errT k) (.int .i64 (errN k))] w fun e w' => ∃ v, e = .returned v ∧ NewErr w k (-1) (p / 8 : Nat) v w' := by
  have hm : ∀ (a : Addr) (w : World), (Go.method 464 233 (.pointer (some a)) "At").run Tryz.prog w = .ok (254, .pointer (some a)) w := fun a w => by kernel_rfl
  have hc := ht.cell
  have hcall : Calls Tryz.prog 254 #[.pointer (some ⟨rb, 0, none⟩)] w fun e w' => e = .returned (.int .i64 p) ∧ ∃ n, w' = w.drewN n := rdAt_any h
  have hle := h.lim
  have hsm : p ≤ 8388608 := by omega
  obtain ⟨hh, hlf⟩ := errV_leaf hk
  have hln := hlf.nil
  have hcode := Hid.mk (codeV_errV hk hk2)
  generalize errT k = et at *
  generalize errN k = en at *
  clear hle hlf
  go_enter Tryz.func234, Tryz.ntmps234
  go_wp2_with (go_at_call 254; refine hcall.mono ?_; rintro e w1 ⟨rfl, n1, rfl⟩)
  go_ret
  refine ⟨_, rfl, (w.drewN n1).heap.size, rfl, ⟨(Blk.new (w.drewN n1) _ _).cell 0, (Blk.new (w.drewN n1) _ _).cell 1, ?_⟩, (Fr.drewN [] w n1).alloc' _, by simp [World.drewN]⟩
  rw [hcode.out]
  exact (Blk.new (w.drewN n1) _ _).cell 2
theorem wrap_err {q : Bool} {B : Nat} {w : World} {tb rb bs : Nat} {c : Cfg} {p : Nat} {S : List Nat} (ht : ToldB q w tb rb) (h : RdS q B w rb bs c p S) (k : Nat) (hk : k ≠ 0) (hk2 : k < 17) :
    Calls Tryz.prog 234 #[.pointer (some ⟨tb, 0, none⟩), .iface (errT k) (.int .i64 (errN k))] w fun e w' => ∃ v, e = .returned v ∧ NewErr w k (-1) (p / 8 : Nat) v w' := by
  cases q
  · exact wrap_s ht h k hk hk2
  · exact wrap_q ht h k hk hk2
set_option maxHeartbeats 400000 in
theorem tRead_nil_s {w : World} {tb rb : Nat} (ht : Blk w tb #[.iface 230 (.pointer (some ⟨rb, 0, none⟩))] 183) (z : Int) (x : Value) (P : World → Prop)
    (hcall : Calls Tryz.prog 246 #[.pointer (some ⟨rb, 0, none⟩), .int .i64 z] w fun e w' => e = .returned (.tuple #[x, .nilIface]) ∧ P w') :
    Calls Tryz.prog 232 #[.pointer (some ⟨tb, 0, none⟩), .int .i64 z] w fun e w' => e = .returned (.tuple #[x, .nilIface]) ∧ P w' := by
  have hm : ∀ (a : Addr) (w : World), (Go.method 464 230 (.pointer (some a)) "Read").run Tryz.prog w = .ok (246, .pointer (some a)) w := fun a w => by kernel_rfl
  have hc := ht.cell
  go_enter Tryz.func232, Tryz.ntmps232
  go_wp2_with (first
    | (go_at_call 246; refine hcall.mono ?_; rintro e w1 ⟨rfl, hP⟩)
    | (go_at_call 234; refine (wrap_nil _ _).mono ?_; rintro e w2 ⟨rfl, rfl⟩))
  go_ret2
  exact ⟨rfl, hP⟩
set_option maxHeartbeats 400000 in
theorem tRead_err_s {w : World} {tb rb : Nat} (ht : Blk w tb #[.iface 230 (.pointer (some ⟨rb, 0, none⟩))] 183) (z : Int) (x : Value) (k : Nat) (n m : Int) (P : World → Prop)
    (hcall : Calls Tryz.prog 246 #[.pointer (some ⟨rb, 0, none⟩), .int .i64 z] w fun e w' => e = .returned (.tuple #[x, .iface (errT k) (.int .i64 (errN k))]) ∧ P w')
    (hw : ∀ w1, P w1 → Calls Tryz.prog 234 #[.pointer (some ⟨tb, 0, none⟩), .iface (errT k) (.int .i64 (errN k))] w1 fun e w' => ∃ v, e = .returned v ∧ NewErr w1 k n m v w') :
    Calls Tryz.prog 232 #[.pointer (some ⟨tb, 0, none⟩), .int .i64 z] w fun e w' => ∃ v w1, e = .returned (.tuple #[x, v]) ∧ P w1 ∧ NewErr w1 k n m v w' := by
  have hm : ∀ (a : Addr) (w : World), (Go.method 464 230 (.pointer (some a)) "Read").run Tryz.prog w = .ok (246, .pointer (some a)) w := fun a w => by kernel_rfl
  have hc := ht.cell
  have hw' := Hid.mk hw
  clear hw
  go_enter Tryz.func232, Tryz.ntmps232
  go_wp2_with (first
    | (go_at_call 246; refine hcall.mono ?_; rintro e w1 ⟨rfl, hP⟩; have hP' := Hid.mk hP; clear hP)
    | (go_at_call 234; refine (hw'.out _ hP'.out).mono ?_; rintro e w2 ⟨v2, rfl, hN⟩))
  go_ret2
  exact ⟨v2, w1, rfl, hP'.out, hN⟩
set_option maxHeartbeats 400000 in
theorem tUnary_nil_s {w : World} {tb rb : Nat} (ht : Blk w tb #[.iface 230 (.pointer (some ⟨rb, 0, none⟩))] 183) (x : Value) (P : World → Prop)
    (hcall : Calls Tryz.prog 247 #[.pointer (some ⟨rb, 0, none⟩)] w fun e w' => e = .returned (.tuple #[x, .nilIface]) ∧ P w') :
    Calls Tryz.prog 233 #[.pointer (some ⟨tb, 0, none⟩)] w fun e w' => e = .returned (.tuple #[x, .nilIface]) ∧ P w' := by
  have hm : ∀ (a : Addr) (w : World), (Go.method 464 230 (.pointer (some a)) "Unary").run Tryz.prog w = .ok (247, .pointer (some a)) w := fun a w => by kernel_rfl
  have hc := ht.cell
  go_enter Tryz.func233, Tryz.ntmps233
  go_wp2_with (first
    | (go_at_call 247; refine hcall.mono ?_; rintro e w1 ⟨rfl, hP⟩)
    | (go_at_call 234; refine (wrap_nil _ _).mono ?_; rintro e w2 ⟨rfl, rfl⟩))
  go_ret2
  exact ⟨rfl, hP⟩
set_option maxHeartbeats 400000 in
theorem tUnary_err_s {w : World} {tb rb : Nat} (ht : Blk w tb #[.iface 230 (.pointer (some ⟨rb, 0, none⟩))] 183) (x : Value) (k : Nat) (n m : Int) (P : World → Prop)
    (hcall : Calls Tryz.prog 247 #[.pointer (some ⟨rb, 0, none⟩)] w fun e w' => e = .returned (.tuple #[x, .iface (errT k) (.int .i64 (errN k))]) ∧ P w')
    (hw : ∀ w1, P w1 → Calls Tryz.prog 234 #[.pointer (some ⟨tb, 0, none⟩), .iface (errT k) (.int .i64 (errN k))] w1 fun e w' => ∃ v, e = .returned v ∧ NewErr w1 k n m v w') :
    Calls Tryz.prog 233 #[.pointer (some ⟨tb, 0, none⟩)] w fun e w' => ∃ v w1, e = .returned (.tuple #[x, v]) ∧ P w1 ∧ NewErr w1 k n m v w' := by
  have hm : ∀ (a : Addr) (w : World), (Go.method 464 230 (.pointer (some a)) "Unary").run Tryz.prog w = .ok (247, .pointer (some a)) w := fun a w => by kernel_rfl
  have hc := ht.cell
  have hw' := Hid.mk hw
  clear hw
  go_enter Tryz.func233, Tryz.ntmps233
  go_wp2_with (first
    | (go_at_call 247; refine hcall.mono ?_; rintro e w1 ⟨rfl, hP⟩; have hP' := Hid.mk hP; clear hP)
    | (go_at_call 234; refine (hw'.out _ hP'.out).mono ?_; rintro e w2 ⟨v2, rfl, hN⟩))
  go_ret2
  exact ⟨v2, w1, rfl, hP'.out, hN⟩
set_option maxHeartbeats 400000 in
theorem tAlign_nil_s {w : World} {tb rb : Nat} (ht : Blk w tb #[.iface 230 (.pointer (some ⟨rb, 0, none⟩))] 183) (x : Value) (P : World → Prop)
    (hcall : Calls Tryz.prog 244 #[.pointer (some ⟨rb, 0, none⟩)] w fun e w' => e = .returned (.tuple #[x, .nilIface]) ∧ P w') :
    Calls Tryz.prog 230 #[.pointer (some ⟨tb, 0, none⟩)] w fun e w' => e = .returned (.tuple #[x, .nilIface]) ∧ P w' := by
  have hm : ∀ (a : Addr) (w : World), (Go.method 464 230 (.pointer (some a)) "Align").run Tryz.prog w = .ok (244, .pointer (some a)) w := fun a w => by kernel_rfl
  have hc := ht.cell
  go_enter Tryz.func230, Tryz.ntmps230
  go_wp2_with (first
    | (go_at_call 244; refine hcall.mono ?_; rintro e w1 ⟨rfl, hP⟩)
    | (go_at_call 234; refine (wrap_nil _ _).mono ?_; rintro e w2 ⟨rfl, rfl⟩))
  go_ret2
  exact ⟨rfl, hP⟩
set_option maxHeartbeats 400000 in
theorem tAlign_err_s {w : World} {tb rb : Nat} (ht : Blk w tb #[.iface 230 (.pointer (some ⟨rb, 0, none⟩))] 183) (x : Value) (k : Nat) (n m : Int) (P : World → Prop)
    (hcall : Calls Tryz.prog 244 #[.pointer (some ⟨rb, 0, none⟩)] w fun e w' => e = .returned (.tuple #[x, .iface (errT k) (.int .i64 (errN k))]) ∧ P w')
    (hw : ∀ w1, P w1 → Calls Tryz.prog 234 #[.pointer (some ⟨tb, 0, none⟩), .iface (errT k) (.int .i64 (errN k))] w1 fun e w' => ∃ v, e = .returned v ∧ NewErr w1 k n m v w') :
    Calls Tryz.prog 230 #[.pointer (some ⟨tb, 0, none⟩)] w fun e w' => ∃ v w1, e = .returned (.tuple #[x, v]) ∧ P w1 ∧ NewErr w1 k n m v w' := by
  have hm : ∀ (a : Addr) (w : World), (Go.method 464 230 (.pointer (some a)) "Align").run Tryz.prog w = .ok (244, .pointer (some a)) w := fun a w => by kernel_rfl
  have hc := ht.cell
  have hw' := Hid.mk hw
  clear hw
  go_enter Tryz.func230, Tryz.ntmps230
  go_wp2_with (first
    | (go_at_call 244; refine hcall.mono ?_; rintro e w1 ⟨rfl, hP⟩; have hP' := Hid.mk hP; clear hP)
    | (go_at_call 234; refine (hw'.out _ hP'.out).mono ?_; rintro e w2 ⟨v2, rfl, hN⟩))
  go_ret2
  exact ⟨v2, w1, rfl, hP'.out, hN⟩
set_option maxHeartbeats 400000 in
theorem tRead_nil_q {w : World} {tb rb : Nat} (ht : Blk w tb #[.iface 233 (.pointer (some ⟨rb, 0, none⟩))] 183) (z : Int) (x : Value) (P : World → Prop)
    (hcall : Calls Tryz.prog 255 #[.pointer (some ⟨rb, 0, none⟩), .int .i64 z] w fun e w' => e = .returned (.tuple #[x, .nilIface]) ∧ P w') :
    Calls Tryz.prog 232 #[.pointer (some ⟨tb, 0, none⟩), .int .i64 z] w fun e w' => e = .returned (.tuple #[x, .nilIface]) ∧ P w' := by
  have hm : ∀ (a : Addr) (w : World), (Go.method 464 233 (.pointer (some a)) "Read").run Tryz.prog w = .ok (255, .pointer (some a)) w := fun a w => by kernel_rfl
  have hc := ht.cell
  go_enter Tryz.func232, Tryz.ntmps232
  go_wp2_with (first
    | (go_at_call 255; refine hcall.mono ?_; rintro e w1 ⟨rfl, hP⟩)
    | (go_at_call 234; refine (wrap_nil _ _).mono ?_; rintro e w2 ⟨rfl, rfl⟩))
  go_ret2
  exact ⟨rfl, hP⟩
set_option maxHeartbeats 400000 in
theorem tRead_err_q {w : World} {tb rb : Nat} (ht : Blk w tb #[.iface 233 (.pointer (some ⟨rb, 0, none⟩))] 183) (z : Int) (x : Value) (k : Nat) (n m : Int) (P : World → Prop)
    (hcall : Calls Tryz.prog 255 #[.pointer (some ⟨rb, 0, none⟩), .int .i64 z] w fun e w' => e = .returned (.tuple #[x, .iface (errT k) (.int .i64 (errN k))]) ∧ P w')
    (hw : ∀ w1, P w1 → Calls Tryz.prog 234 #[.pointer (some ⟨tb, 0, none⟩), .iface (errT k) (.int .i64 (errN k))] w1 fun e w' => ∃ v, e = .returned v ∧ NewErr w1 k n m v w') :
    Calls Tryz.prog 232 #[.pointer (some ⟨tb, 0, none⟩), .int .i64 z] w fun e w' => ∃ v w1, e = .returned (.tuple #[x, v]) ∧ P w1 ∧ NewErr w1 k n m v w' := by
  have hm : ∀ (a : Addr) (w : World), (Go.method 464 233 (.pointer (some a)) "Read").run Tryz.prog w = .ok (255, .pointer (some a)) w := fun a w => by kernel_rfl
  have hc := ht.cell
  have hw' := Hid.mk hw
  clear hw
  go_enter Tryz.func232, Tryz.ntmps232
  go_wp2_with (first
    | (go_at_call 255; refine hcall.mono ?_; rintro e w1 ⟨rfl, hP⟩; have hP' := Hid.mk hP; clear hP)
    | (go_at_call 234; refine (hw'.out _ hP'.out).mono ?_; rintro e w2 ⟨v2, rfl, hN⟩))
  go_ret2
  exact ⟨v2, w1, rfl, hP'.out, hN⟩
set_option maxHeartbeats 400000 in
theorem tUnary_nil_q {w : World} {tb rb : Nat} (ht : Blk w tb #[.iface 233 (.pointer (some ⟨rb, 0, none⟩))] 183) (x : Value) (P : World → Prop)
    (hcall : Calls Tryz.prog 256 #[.pointer (some ⟨rb, 0, none⟩)] w fun e w' => e = .returned (.tuple #[x, .nilIface]) ∧ P w') :
    Calls Tryz.prog 233 #[.pointer (some ⟨tb, 0, none⟩)] w fun e w' => e = .returned (.tuple #[x, .nilIface]) ∧ P w' := by
  have hm : ∀ (a : Addr) (w : World), (Go.method 464 233 (.pointer (some a)) "Unary").run Tryz.prog w = .ok (256, .pointer (some a)) w := fun a w => by kernel_rfl
  have hc := ht.cell
  go_enter Tryz.func233, Tryz.ntmps233
  go_wp2_with (first
    | (go_at_call 256; refine hcall.mono ?_; rintro e w1 ⟨rfl, hP⟩)
    | (go_at_call 234; refine (wrap_nil _ _).mono ?_; rintro e w2 ⟨rfl, rfl⟩))
  go_ret2
  exact ⟨rfl, hP⟩
set_option maxHeartbeats 400000 in
theorem tUnary_err_q {w : World} {tb rb : Nat} (ht : Blk w tb #[.iface 233 (.pointer (some ⟨rb, 0, none⟩))] 183) (x : Value) (k : Nat) (n m : Int) (P : World → Prop)
    (hcall : Calls Tryz.prog 256 #[.pointer (some ⟨rb, 0, none⟩)] w fun e w' => e = .returned (.tuple #[x, .iface (errT k) (.int .i64 (errN k))]) ∧ P w')
    (hw : ∀ w1, P w1 → Calls Tryz.prog 234 #[.pointer (some ⟨tb, 0, none⟩), .iface (errT k) (.int .i64 (errN k))] w1 fun e w' => ∃ v, e = .returned v ∧ NewErr w1 k n m v w') :
    Calls Tryz.prog 233 #[.pointer (some ⟨tb, 0, none⟩)] w fun e w' => ∃ v w1, e = .returned (.tuple #[x, v]) ∧ P w1 ∧ NewErr w1 k n m v w' := by
  have hm : ∀ (a : Addr) (w : World), (Go.method 464 233 (.pointer (some a)) "Unary").run Tryz.prog w = .ok (256, .pointer (some a)) w := fun a w => by kernel_rfl
  have hc := ht.cell
  have hw' := Hid.mk hw
  clear hw
  go_enter Tryz.func233, Tryz.ntmps233
  go_wp2_with (first
    | (go_at_call 256; refine hcall.mono ?_; rintro e w1 ⟨rfl, hP⟩; have hP' := Hid.mk hP; clear hP)
    | (go_at_call 234; refine (hw'.out _ hP'.out).mono ?_; rintro e w2 ⟨v2, rfl, hN⟩))
  go_ret2
  exact ⟨v2, w1, rfl, hP'.out, hN⟩
set_option maxHeartbeats 400000 in
theorem tAlign_nil_q {w : World} {tb rb : Nat} (ht : Blk w tb #[.iface 233 (.pointer (some ⟨rb, 0, none⟩))] 183) (x : Value) (P : World → Prop)
    (hcall : Calls Tryz.prog 253 #[.pointer (some ⟨rb, 0, none⟩)] w fun e w' => e = .returned (.tuple #[x, .nilIface]) ∧ P w') :
    Calls Tryz.prog 230 #[.pointer (some ⟨tb, 0, none⟩)] w fun e w' => e = .returned (.tuple #[x, .nilIface]) ∧ P w' := by
  have hm : ∀ (a : Addr) (w : World), (Go.method 464 233 (.pointer (some a)) "Align").run Tryz.prog w = .ok (253, .pointer (some a)) w := fun a w => by kernel_rfl
  have hc := ht.cell
  go_enter Tryz.func230, Tryz.ntmps230
  go_wp2_with (first
    | (go_at_call 253; refine hcall.mono ?_; rintro e w1 ⟨rfl, hP⟩)
    | (go_at_call 234; refine (wrap_nil _ _).mono ?_; rintro e w2 ⟨rfl, rfl⟩))
  go_ret2
  exact ⟨rfl, hP⟩
set_option maxHeartbeats 400000 in
theorem tAlign_err_q {w : World} {tb rb : Nat} (ht : Blk w tb #[.iface 233 (.pointer (some ⟨rb, 0, none⟩))] 183) (x : Value) (k : Nat) (n m : Int) (P : World → Prop)
    (hcall : Calls Tryz.prog 253 #[.pointer (some ⟨rb, 0, none⟩)] w fun e w' => e = .returned (.tuple #[x, .iface (errT k) (.int .i64 (errN k))]) ∧ P w')
    (hw : ∀ w1, P w1 → Calls Tryz.prog 234 #[.pointer (some ⟨tb, 0, none⟩), .iface (errT k) (.int .i64 (errN k))] w1 fun e w' => ∃ v, e = .returned v ∧ NewErr w1 k n m v w') :
    Calls Tryz.prog 230 #[.pointer (some ⟨tb, 0, none⟩)] w fun e w' => ∃ v w1, e = .returned (.tuple #[x, v]) ∧ P w1 ∧ NewErr w1 k n m v w' := by
  have hm : ∀ (a : Addr) (w : World), (Go.method 464 233 (.pointer (some a)) "Align").run Tryz.prog w = .ok (253, .pointer (some a)) w := fun a w => by kernel_rfl
  have hc := ht.cell
  have hw' := Hid.mk hw
  clear hw
  go_enter Tryz.func230, Tryz.ntmps230
  go_wp2_with (first
    | (go_at_call 253; refine hcall.mono ?_; rintro e w1 ⟨rfl, hP⟩; have hP' := Hid.mk hP; clear hP)
    | (go_at_call 234; refine (hw'.out _ hP'.out).mono ?_; rintro e w2 ⟨v2, rfl, hN⟩))
  go_ret2
  exact ⟨v2, w1, rfl, hP'.out, hN⟩
theorem tRead_nil {q : Bool} {w : World} {tb rb : Nat} (ht : ToldB q w tb rb) (z : Int) (x : Value) (P : World → Prop)
    (hcall : Calls Tryz.prog (rdRead q) #[.pointer (some ⟨rb, 0, none⟩), .int .i64 z] w fun e w' => e = .returned (.tuple #[x, .nilIface]) ∧ P w') :
    Calls Tryz.prog 232 #[.pointer (some ⟨tb, 0, none⟩), .int .i64 z] w fun e w' => e = .returned (.tuple #[x, .nilIface]) ∧ P w' := by
  cases q
  · exact tRead_nil_s ht z x P hcall
  · exact tRead_nil_q ht z x P hcall
theorem tRead_err {q : Bool} {w : World} {tb rb : Nat} (ht : ToldB q w tb rb) (z : Int) (x : Value) (k : Nat) (n m : Int) (P : World → Prop)
    (hcall : Calls Tryz.prog (rdRead q) #[.pointer (some ⟨rb, 0, none⟩), .int .i64 z] w fun e w' => e = .returned (.tuple #[x, .iface (errT k) (.int .i64 (errN k))]) ∧ P w')
    (hw : ∀ w1, P w1 → Calls Tryz.prog 234 #[.pointer (some ⟨tb, 0, none⟩), .iface (errT k) (.int .i64 (errN k))] w1 fun e w' => ∃ v, e = .returned v ∧ NewErr w1 k n m v w') :
    Calls Tryz.prog 232 #[.pointer (some ⟨tb, 0, none⟩), .int .i64 z] w fun e w' => ∃ v w1, e = .returned (.tuple #[x, v]) ∧ P w1 ∧ NewErr w1 k n m v w' := by
  cases q
  · exact tRead_err_s ht z x k n m P hcall hw
  · exact tRead_err_q ht z x k n m P hcall hw
theorem tUnary_nil {q : Bool} {w : World} {tb rb : Nat} (ht : ToldB q w tb rb) (x : Value) (P : World → Prop)
    (hcall : Calls Tryz.prog (rdUnary q) #[.pointer (some ⟨rb, 0, none⟩)] w fun e w' => e = .returned (.tuple #[x, .nilIface]) ∧ P w') :
    Calls Tryz.prog 233 #[.pointer (some ⟨tb, 0, none⟩)] w fun e w' => e = .returned (.tuple #[x, .nilIface]) ∧ P w' := by
  cases q
  · exact tUnary_nil_s ht x P hcall
  · exact tUnary_nil_q ht x P hcall
theorem tUnary_err {q : Bool} {w : World} {tb rb : Nat} (ht : ToldB q w tb rb) (x : Value) (k : Nat) (n m : Int) (P : World → Prop)
    (hcall : Calls Tryz.prog (rdUnary q) #[.pointer (some ⟨rb, 0, none⟩)] w fun e w' => e = .returned (.tuple #[x, .iface (errT k) (.int .i64 (errN k))]) ∧ P w')
    (hw : ∀ w1, P w1 → Calls Tryz.prog 234 #[.pointer (some ⟨tb, 0, none⟩), .iface (errT k) (.int .i64 (errN k))] w1 fun e w' => ∃ v, e = .returned v ∧ NewErr w1 k n m v w') :
    Calls Tryz.prog 233 #[.pointer (some ⟨tb, 0, none⟩)] w fun e w' => ∃ v w1, e = .returned (.tuple #[x, v]) ∧ P w1 ∧ NewErr w1 k n m v w' := by
  cases q
  · exact tUnary_err_s ht x k n m P hcall hw
  · exact tUnary_err_q ht x k n m P hcall hw
theorem tAlign_nil {q : Bool} {w : World} {tb rb : Nat} (ht : ToldB q w tb rb) (x : Value) (P : World → Prop)
    (hcall : Calls Tryz.prog (rdAlign q) #[.pointer (some ⟨rb, 0, none⟩)] w fun e w' => e = .returned (.tuple #[x, .nilIface]) ∧ P w') :
    Calls Tryz.prog 230 #[.pointer (some ⟨tb, 0, none⟩)] w fun e w' => e = .returned (.tuple #[x, .nilIface]) ∧ P w' := by
  cases q
  · exact tAlign_nil_s ht x P hcall
  · exact tAlign_nil_q ht x P hcall
theorem tAlign_err {q : Bool} {w : World} {tb rb : Nat} (ht : ToldB q w tb rb) (x : Value) (k : Nat) (n m : Int) (P : World → Prop)
    (hcall : Calls Tryz.prog (rdAlign q) #[.pointer (some ⟨rb, 0, none⟩)] w fun e w' => e = .returned (.tuple #[x, .iface (errT k) (.int .i64 (errN k))]) ∧ P w')
    (hw : ∀ w1, P w1 → Calls Tryz.prog 234 #[.pointer (some ⟨tb, 0, none⟩), .iface (errT k) (.int .i64 (errN k))] w1 fun e w' => ∃ v, e = .returned v ∧ NewErr w1 k n m v w') :
    Calls Tryz.prog 230 #[.pointer (some ⟨tb, 0, none⟩)] w fun e w' => ∃ v w1, e = .returned (.tuple #[x, v]) ∧ P w1 ∧ NewErr w1 k n m v w' := by
  cases q
  · exact tAlign_err_s ht x k n m P hcall hw
  · exact tAlign_err_q ht x k n m P hcall hw
end Go.Proofs.YthigfpaajbejdaaGreatDoor
