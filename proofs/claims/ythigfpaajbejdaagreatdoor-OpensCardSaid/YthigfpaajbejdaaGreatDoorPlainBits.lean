/-
  plain.Bits, walked.
-/
import Derived.Test.YthigfpaajbejdaaGreatDoorTold
import Derived.Test.YthigfpaajbejdaaGreatDoorRefStream
namespace Go.Proofs.YthigfpaajbejdaaGreatDoor
open Go.RowKit

/-- plain.Bits stands in block pb, over the told reader in block tb. -/
structure PB (q : Bool) (B : Nat) (pb tb rb bs : Nat) (c : Cfg) (w : World) (p : Nat) (S : List Nat) : Prop where
  blk : Blk w pb #[.iface 181 (.pointer (some ⟨tb, 0, none⟩)), .pointer (some ⟨bs, 0, none⟩)] 127
  told : ToldB q w tb rb
  rd : RdS q B w rb bs c p S
  npb : pb ∉ S
  ntb : tb ∉ S
/-- The variables that are read lie below block B. -/
structure GlB (B : Nat) (w : World) : Prop where
  gl : Gl w
  pow : 3 < B
  et : 0 < B

section
variable {q : Bool} {B : Nat} {w w0 w1 w2 w3 w' : World} {pb tb rb bs : Nat} {c : Cfg} {p p' : Nat} {S T : List Nat}
theorem GlB.keep (h : GlB B w) (hf : Fr S w w') (hS : ∀ x ∈ S, B ≤ x) : GlB B w' :=
  ⟨h.gl.keep hf (fun hx => by have := hS _ hx; have := h.pow; omega) (fun hx => by have := hS _ hx; have := h.et; omega), h.pow, h.et⟩
theorem ToldB.blk (h : ToldB q w tb rb) : Blk w tb #[.iface (rdT q) (.pointer (some ⟨rb, 0, none⟩))] 183 := h
theorem PB.keep (h : PB q B pb tb rb bs c w p S) (hf : Fr T w w') (hT : ∀ x ∈ S, x ∉ T) (hB : ∀ x ∈ T, B ≤ x) (h1 : pb ∉ T) (h2 : tb ∉ T) : PB q B pb tb rb bs c w' p S :=
  ⟨hf.blk h.blk h1, hf.blk h.told.blk h2, h.rd.keep hf hT hB, h.npb, h.ntb⟩
theorem PB.still (h : PB q B pb tb rb bs c w p S) (hf : Fr [] w w') : PB q B pb tb rb bs c w' p S := h.keep hf (by simp) (by simp) (by simp) (by simp)
/-- A call through: the result's cell made, the reader moved, the fault told and laid into the cell. -/
theorem PB.done (h : PB q B pb tb rb bs c w p S) {N : Nat} (hN : N = w.heap.size) (hf0 : Fr [] w w0) (hs0 : N < w0.heap.size) (hm : Moved (RdS q B · rb bs c) w0 S p' w1) (hf2 : Fr [] w1 w2) (hf3 : Fr [N] w2 w3) : Moved (PB q B pb tb rb bs c) w S p' w3 := by
  obtain ⟨hF, S1, hr, hn⟩ := hm
  have hall := h.rd.all
  have hpb := h.blk.lt
  have htb := h.told.blk.lt
  have hB : B ≤ N := by
    obtain ⟨_, _, _, _, _, _, _, _, _, h1, h2, _⟩ := h.rd.feed
    omega
  have hNS : N ∉ S := fun hx => by have := (hall N hx).2; omega
  have hNS1 : N ∉ S1 := fun hx => by rcases hn N hx with h1 | h1; exact hNS h1; omega
  have hpbN : pb ≠ N := by omega
  have htbN : tb ≠ N := by omega
  have hB0 : Fr S w w2 := (hf0.mono (by simp)).same (hF.same (hf2.mono (by simp)))
  have hFw : Fr S w w3 := hB0.trans hf3 (fun k hk => .inr (by rw [List.mem_singleton] at hk; omega))
  refine ⟨hFw, S1, ⟨hFw.blk h.blk h.npb, hFw.blk h.told.blk h.ntb, (hr.still hf2).keep hf3 (fun x hx hx' => hNS1 (by rw [List.mem_singleton] at hx'; subst hx'; exact hx)) (fun x hx => by rw [List.mem_singleton] at hx; omega), ?_, ?_⟩, fun x hx => ?_⟩
  · intro hx
    rcases hn pb hx with h1 | h1
    · exact h.npb h1
    · have := hf0.size; omega
  · intro hx
    rcases hn tb hx with h1 | h1
    · exact h.ntb h1
    · have := hf0.size; omega
  · exact (hn x hx).imp_right (Nat.le_trans hf0.size)
theorem okn_neg : OkN (-1) := .inl rfl
end

set_option maxRecDepth 100000 in
set_option maxHeartbeats 1000000 in
theorem pRead_nil {q : Bool} {B : Nat} {w : World} {pb tb rb bs : Nat} {c : Cfg} {p p' : Nat} {S : List Nat} (h : PB q B pb tb rb bs c w p S) (z : Int) (x : Int)
    (hcall : ∀ W, RdS q B W rb bs c p S → Calls Tryz.prog (rdRead q) #[.pointer (some ⟨rb, 0, none⟩), .int .i64 z] W fun e w' => e = .returned (.tuple #[.int .u64 x, .nilIface]) ∧ Moved (RdS q B · rb bs c) W S p' w') :
    Calls Tryz.prog 76 #[.pointer (some ⟨pb, 0, none⟩), .int .i64 z] w fun e w' => e = .returned (.tuple #[.int .i64 (wrap64 x), .agg #[.int .i64 0, .int .i64 0, .int .i64 0]]) ∧ Moved (PB q B pb tb rb bs c) w S p' w' := by
  have hm : ∀ (a : Addr) (w : World), (Go.method 464 181 (.pointer (some a)) "Read").run Tryz.prog w = .ok (232, .pointer (some a)) w := fun a w => by kernel_rfl
  have hf0 := Fr.alloc [] w (.cells #[.int .i64 0, .int .i64 0, .int .i64 0] 23)
  have h0 := h.still hf0
  have hc := h0.blk.cell
  have hb0 := Blk.new w #[.int .i64 0, .int .i64 0, .int .i64 0] 23
  have hcl := Hid.mk (tRead_nil h0.told z (.int .u64 x) _ (hcall _ h0.rd))
  have hNS : w.heap.size ∉ S := fun hx => by have := (h.rd.all _ hx).2; omega
  clear hcall
  go_enter Tryz.func76, Tryz.ntmps76
  go_wp2_with (first
    | (go_at_call 232; refine hcl.out.mono ?_; rintro e w1 ⟨rfl, hm1⟩; have hb1 := hm1.1.blk hb0 hNS)
    | (go_at_call 33; refine (fault_nil _).mono ?_; rintro e w2 ⟨rfl, hf2⟩; have hb2 := hf2.blk hb1 (by simp); have hc2 := hb2.cell; have hz2 := hb2.frozen))
  refine bodyPost_ret (results_tc rfl _ _ w.heap.size 23 #[.int .i64 0, .int .i64 0, .int .i64 0] (0, 0) _ rfl (((hb2.set 0 _).set 1 _).set 2 _) Tryz.underlying23 rfl (by kernel_rfl)) rfl ?_
  exact ⟨rfl, h.done rfl hf0 (by simp) hm1 hf2 (fr3 w.heap.size _ 0 1 2 _ _ _)⟩
set_option maxRecDepth 100000 in
set_option maxHeartbeats 1000000 in
theorem pRead_err {q : Bool} {B : Nat} {w : World} {pb tb rb bs : Nat} {c : Cfg} {p : Nat} {S : List Nat} (h : PB q B pb tb rb bs c w p S) (hg : GlB B w) (z : Int) (k : Nat) (hk0 : k ≠ 0) (hk : k < 17)
    (hcall : ∀ W, RdS q B W rb bs c p S → Calls Tryz.prog (rdRead q) #[.pointer (some ⟨rb, 0, none⟩), .int .i64 z] W fun e w' => e = .returned (.tuple #[.int .u64 0, .iface (errT k) (.int .i64 (errN k))]) ∧ Moved (RdS q B · rb bs c) W S p w') :
    Calls Tryz.prog 76 #[.pointer (some ⟨pb, 0, none⟩), .int .i64 z] w fun e w' => e = .returned (.tuple #[.int .i64 0, .agg #[.int .i64 k, .int .i64 (-1), .int .i64 (p / 8 : Nat)]]) ∧ Moved (PB q B pb tb rb bs c) w S p w' := by
  have hm : ∀ (a : Addr) (w : World), (Go.method 464 181 (.pointer (some a)) "Read").run Tryz.prog w = .ok (232, .pointer (some a)) w := fun a w => by kernel_rfl
  have hf0 := Fr.alloc [] w (.cells #[.int .i64 0, .int .i64 0, .int .i64 0] 23)
  have h0 := h.still hf0
  have hg0 := hg.keep hf0 (by simp)
  have hc := h0.blk.cell
  have hb0 := Blk.new w #[.int .i64 0, .int .i64 0, .int .i64 0] 23
  have hcl := Hid.mk (tRead_err h0.told z (.int .u64 0) k (-1) (p / 8 : Nat) _ (hcall _ h0.rd) (fun W hW => by
    obtain ⟨hF, S1, hr, hn⟩ := hW
    refine wrap_err (hF.blk h0.told.blk h.ntb) hr k hk0 hk))
  have hNS : w.heap.size ∉ S := fun hx => by have := (h.rd.all _ hx).2; omega
  have hSB : ∀ x ∈ S, B ≤ x := fun x hx => (h.rd.all x hx).1
  have hp8 : OkN ((p / 8 : Nat) : Int) := by have := h.rd.lim; exact .inr ⟨by omega, by omega⟩
  clear hcall
  go_enter Tryz.func76, Tryz.ntmps76
  go_wp2_with (first
    | (go_at_call 232; refine hcl.out.mono ?_; rintro e w1 ⟨v1, wm, rfl, hm1, hN⟩; have hb1 := hm1.1.blk hb0 hNS)
    | (go_at_call 33; refine (fault_of wm k (-1) (p / 8 : Nat) v1 (by omega) hk okn_neg hp8 _ (hg0.keep hm1.1 hSB).gl hN).mono ?_; rintro e w2 ⟨rfl, hf2⟩; have hb2 := hf2.blk hb1 (by simp); have hc2 := hb2.cell; have hz2 := hb2.frozen))
  refine bodyPost_ret (results_tc rfl _ _ w.heap.size 23 #[.int .i64 k, .int .i64 (-1), .int .i64 (p / 8 : Nat)] (0, 0) _ rfl (((hb2.set 0 _).set 1 _).set 2 _) Tryz.underlying23 rfl (by kernel_rfl)) rfl ?_
  exact ⟨rfl, h.done rfl hf0 (by simp) hm1 hf2 (fr3 w.heap.size _ 0 1 2 _ _ _)⟩
set_option maxRecDepth 100000 in
set_option maxHeartbeats 1000000 in
theorem pUnary_nil {q : Bool} {B : Nat} {w : World} {pb tb rb bs : Nat} {c : Cfg} {p p' : Nat} {S : List Nat} (h : PB q B pb tb rb bs c w p S) (x : Int)
    (hcall : ∀ W, RdS q B W rb bs c p S → Calls Tryz.prog (rdUnary q) #[.pointer (some ⟨rb, 0, none⟩)] W fun e w' => e = .returned (.tuple #[.int .i64 x, .nilIface]) ∧ Moved (RdS q B · rb bs c) W S p' w') :
    Calls Tryz.prog 72 #[.pointer (some ⟨pb, 0, none⟩)] w fun e w' => e = .returned (.tuple #[.int .i64 x, .agg #[.int .i64 0, .int .i64 0, .int .i64 0]]) ∧ Moved (PB q B pb tb rb bs c) w S p' w' := by
  have hm : ∀ (a : Addr) (w : World), (Go.method 464 181 (.pointer (some a)) "Unary").run Tryz.prog w = .ok (233, .pointer (some a)) w := fun a w => by kernel_rfl
  have hf0 := Fr.alloc [] w (.cells #[.int .i64 0, .int .i64 0, .int .i64 0] 23)
  have h0 := h.still hf0
  have hc := h0.blk.cell
  have hb0 := Blk.new w #[.int .i64 0, .int .i64 0, .int .i64 0] 23
  have hcl := Hid.mk (tUnary_nil h0.told (.int .i64 x) _ (hcall _ h0.rd))
  have hNS : w.heap.size ∉ S := fun hx => by have := (h.rd.all _ hx).2; omega
  clear hcall
  go_enter Tryz.func72, Tryz.ntmps72
  go_wp2_with (first
    | (go_at_call 233; refine hcl.out.mono ?_; rintro e w1 ⟨rfl, hm1⟩; have hb1 := hm1.1.blk hb0 hNS)
    | (go_at_call 33; refine (fault_nil _).mono ?_; rintro e w2 ⟨rfl, hf2⟩; have hb2 := hf2.blk hb1 (by simp); have hc2 := hb2.cell; have hz2 := hb2.frozen))
  refine bodyPost_ret (results_tc rfl _ _ w.heap.size 23 #[.int .i64 0, .int .i64 0, .int .i64 0] (0, 0) _ rfl (((hb2.set 0 _).set 1 _).set 2 _) Tryz.underlying23 rfl (by kernel_rfl)) rfl ?_
  exact ⟨rfl, h.done rfl hf0 (by simp) hm1 hf2 (fr3 w.heap.size _ 0 1 2 _ _ _)⟩
set_option maxRecDepth 100000 in
set_option maxHeartbeats 1000000 in
theorem pUnary_err {q : Bool} {B : Nat} {w : World} {pb tb rb bs : Nat} {c : Cfg} {p : Nat} {S : List Nat} (h : PB q B pb tb rb bs c w p S) (hg : GlB B w) (k : Nat) (hk0 : k ≠ 0) (hk : k < 17)
    (hcall : ∀ W, RdS q B W rb bs c p S → Calls Tryz.prog (rdUnary q) #[.pointer (some ⟨rb, 0, none⟩)] W fun e w' => e = .returned (.tuple #[.int .i64 0, .iface (errT k) (.int .i64 (errN k))]) ∧ Moved (RdS q B · rb bs c) W S p w') :
    Calls Tryz.prog 72 #[.pointer (some ⟨pb, 0, none⟩)] w fun e w' => e = .returned (.tuple #[.int .i64 0, .agg #[.int .i64 k, .int .i64 (-1), .int .i64 (p / 8 : Nat)]]) ∧ Moved (PB q B pb tb rb bs c) w S p w' := by
  have hm : ∀ (a : Addr) (w : World), (Go.method 464 181 (.pointer (some a)) "Unary").run Tryz.prog w = .ok (233, .pointer (some a)) w := fun a w => by kernel_rfl
  have hf0 := Fr.alloc [] w (.cells #[.int .i64 0, .int .i64 0, .int .i64 0] 23)
  have h0 := h.still hf0
  have hg0 := hg.keep hf0 (by simp)
  have hc := h0.blk.cell
  have hb0 := Blk.new w #[.int .i64 0, .int .i64 0, .int .i64 0] 23
  have hcl := Hid.mk (tUnary_err h0.told (.int .i64 0) k (-1) (p / 8 : Nat) _ (hcall _ h0.rd) (fun W hW => by
    obtain ⟨hF, S1, hr, hn⟩ := hW
    refine wrap_err (hF.blk h0.told.blk h.ntb) hr k hk0 hk))
  have hNS : w.heap.size ∉ S := fun hx => by have := (h.rd.all _ hx).2; omega
  have hSB : ∀ x ∈ S, B ≤ x := fun x hx => (h.rd.all x hx).1
  have hp8 : OkN ((p / 8 : Nat) : Int) := by have := h.rd.lim; exact .inr ⟨by omega, by omega⟩
  clear hcall
  go_enter Tryz.func72, Tryz.ntmps72
  go_wp2_with (first
    | (go_at_call 233; refine hcl.out.mono ?_; rintro e w1 ⟨v1, wm, rfl, hm1, hN⟩; have hb1 := hm1.1.blk hb0 hNS)
    | (go_at_call 33; refine (fault_of wm k (-1) (p / 8 : Nat) v1 (by omega) hk okn_neg hp8 _ (hg0.keep hm1.1 hSB).gl hN).mono ?_; rintro e w2 ⟨rfl, hf2⟩; have hb2 := hf2.blk hb1 (by simp); have hc2 := hb2.cell; have hz2 := hb2.frozen))
  refine bodyPost_ret (results_tc rfl _ _ w.heap.size 23 #[.int .i64 k, .int .i64 (-1), .int .i64 (p / 8 : Nat)] (0, 0) _ rfl (((hb2.set 0 _).set 1 _).set 2 _) Tryz.underlying23 rfl (by kernel_rfl)) rfl ?_
  exact ⟨rfl, h.done rfl hf0 (by simp) hm1 hf2 (fr3 w.heap.size _ 0 1 2 _ _ _)⟩
set_option maxRecDepth 100000 in
set_option maxHeartbeats 1000000 in
theorem pAlign_nil {q : Bool} {B : Nat} {w : World} {pb tb rb bs : Nat} {c : Cfg} {p p' : Nat} {S : List Nat} (h : PB q B pb tb rb bs c w p S) (x : Bool)
    (hcall : ∀ W, RdS q B W rb bs c p S → Calls Tryz.prog (rdAlign q) #[.pointer (some ⟨rb, 0, none⟩)] W fun e w' => e = .returned (.tuple #[.bool x, .nilIface]) ∧ Moved (RdS q B · rb bs c) W S p' w') :
    Calls Tryz.prog 74 #[.pointer (some ⟨pb, 0, none⟩)] w fun e w' => e = .returned (.tuple #[.bool x, .agg #[.int .i64 0, .int .i64 0, .int .i64 0]]) ∧ Moved (PB q B pb tb rb bs c) w S p' w' := by
  have hm : ∀ (a : Addr) (w : World), (Go.method 464 181 (.pointer (some a)) "Align").run Tryz.prog w = .ok (230, .pointer (some a)) w := fun a w => by kernel_rfl
  have hf0 := Fr.alloc [] w (.cells #[.int .i64 0, .int .i64 0, .int .i64 0] 23)
  have h0 := h.still hf0
  have hc := h0.blk.cell
  have hb0 := Blk.new w #[.int .i64 0, .int .i64 0, .int .i64 0] 23
  have hcl := Hid.mk (tAlign_nil h0.told (.bool x) _ (hcall _ h0.rd))
  have hNS : w.heap.size ∉ S := fun hx => by have := (h.rd.all _ hx).2; omega
  clear hcall
  go_enter Tryz.func74, Tryz.ntmps74
  go_wp2_with (first
    | (go_at_call 230; refine hcl.out.mono ?_; rintro e w1 ⟨rfl, hm1⟩; have hb1 := hm1.1.blk hb0 hNS)
    | (go_at_call 33; refine (fault_nil _).mono ?_; rintro e w2 ⟨rfl, hf2⟩; have hb2 := hf2.blk hb1 (by simp); have hc2 := hb2.cell; have hz2 := hb2.frozen))
  refine bodyPost_ret (results_tc rfl _ _ w.heap.size 23 #[.int .i64 0, .int .i64 0, .int .i64 0] (0, 0) _ rfl (((hb2.set 0 _).set 1 _).set 2 _) Tryz.underlying23 rfl (by kernel_rfl)) rfl ?_
  exact ⟨rfl, h.done rfl hf0 (by simp) hm1 hf2 (fr3 w.heap.size _ 0 1 2 _ _ _)⟩
end Go.Proofs.YthigfpaajbejdaaGreatDoor
