/-
  Walks: strings.Builder (copyCheck, WriteByte, WriteString, String), quote.plain, quote.put.
-/
import Derived.Test.YtcccmnppfmfkiaaDoorP1
import Derived.Test.YtcccmnppfmfkiaaDoorVb
set_option linter.unusedVariables false
set_option linter.unusedSimpArgs false
namespace Go.V
open Go Go.Proofs

def bytesV (l : List UInt8) : List Value := l.map fun b => .int .u8 b.toNat
/-- What a strings.Builder of the function's own holds. -/
structure Bd where
  used : Bool
  os : OS
  bs : List UInt8
def Bd.blk (b : Nat) (x : Bd) : Blk := ⟨b, .cells #[.pointer (bif x.used then some ⟨b, 0, none⟩ else none), x.os.val] 112 (0, 0)⟩
def Bd.M (b : Nat) (x : Bd) : List Blk := x.blk b :: x.os.blk 5
structure Bd.ok (x : Bd) : Prop where
  os : x.os.ok 1 (bytesV x.bs)
  ne : ∀ g, x.os.a = some g → x.bs ≠ []
def Bd.new : Bd := ⟨false, ⟨none, 0, 0, []⟩, []⟩
theorem Bd.new_ok : Bd.new.ok := ⟨⟨rfl, fun _ => ⟨rfl, rfl⟩, fun g h => by cases h⟩, fun g h => by cases h⟩
theorem Bd.ok.n {x : Bd} (h : x.ok) : x.os.n = x.bs.length := by
  have := h.os.len
  simp [bytesV] at this
  omega
def ptr (b : Nat) : Value := .pointer (some ⟨b, 0, none⟩)

theorem blk_rd {I : GH} {M : List Blk} {b T : Nat} {cs : List Value} (hM : (⟨b, .cells cs.toArray T (0, 0)⟩ : Blk) ∈ M) {k n : Nat} (h : k + n ≤ cs.length) : Rd I M ((⟨b, 0, none⟩ : Addr).add k) n ((cs.drop k).take n) := by
  rw [addr_add _ rfl]
  refine ⟨rfl, _, T, (0, 0), .inr ⟨_, hM, rfl, rfl⟩, ?_, ?_⟩
  · simp
  · simp
    omega

theorem NoEscape_spec {I : GH} {M : List Blk} (v : Value) : Spec Tryd.prog 95 [v] I M fun r I' M' => r = v ∧ I' = I ∧ M' = M :=
  specX_same Tryd.func95 (by kernel_rfl) (by kernel_rfl) (by kernel_rfl) (e := Extern.AbiNoEscape.same) (by kernel_rfl) (fun w => Lib.run_noEscape w _)
theorem IndexByteString_spec {I : GH} {M : List Blk} (s : ByteArray) (c : UInt8) : Spec Tryd.prog 112 [.string s, .int .u8 c.toNat] I M fun r I' M' => r = .int .i64 (Lib.indexByte s.data.toList c) ∧ I' = I ∧ M' = M :=
  specX_same Tryd.func112 (by kernel_rfl) (by kernel_rfl) (by kernel_rfl) (e := Extern.BytealgIndexByte.indexByte) (by kernel_rfl) (fun w => by
    have := Lib.run_indexByteString (P := Tryd.prog) s (c.toNat : Int) w
    simpa using this)
theorem IndexByteL_spec {I : GH} (s : ByteArray) (c : UInt8) : Spec Tryd.prog 108 [.string s, .int .u8 c.toNat] I [] fun r I' M' => r = .int .i64 (Lib.indexByte s.data.toList c) ∧ I' = I ∧ M' = [] := by
  refine spec_of_V [] TrydEOK Tryd.func108 rfl rfl rfl ?_
  intro B h0
  refine CallOb.mk [] [] _ (.refl _) (IndexByteString_spec s c) ?_
  rintro v I' M' - ⟨rfl, rfl, rfl⟩
  exact ⟨_, _, .refl, rfl, rfl, rfl⟩
theorem IndexByte_spec {I : GH} (s : ByteArray) (c : UInt8) : Spec Tryd.prog 104 [.string s, .int .u8 c.toNat] I [] fun r I' M' => r = .int .i64 (Lib.indexByte s.data.toList c) ∧ I' = I ∧ M' = [] := by
  refine spec_of_V [] TrydEOK Tryd.func104 rfl rfl rfl ?_
  intro B h0
  refine CallOb.mk [] [] _ (.refl _) (IndexByteL_spec s c) ?_
  rintro v I' M' - ⟨rfl, rfl, rfl⟩
  exact ⟨_, _, .refl, rfl, rfl, rfl⟩

theorem shape_of {I : GH} {M : List Blk} {w : World} (h : Holds I M w) {b T : Nat} {cs : Array Value} {fr : Nat × Nat} (hM : (⟨b, .cells cs T fr⟩ : Blk) ∈ M) : w.shape? b = some (T, cs.size) := by
  have := h.m _ hM
  simp only at this
  simp [World.shape?, this]

theorem copyCheck_spec {I : GH} (b : Nat) (x : Bd) : Spec Tryd.prog 90 [ptr b] I [x.blk b] fun r I' M' => r = .tuple #[] ∧ I' = I ∧ M' = [{ x with used := true : Bd }.blk b] := by
  obtain ⟨used, os, bs⟩ := x
  obtain ⟨inf, z, hi, hi1, _⟩ := (TrydEOK 112 _ rfl).inf
  refine spec_of_V [] TrydEOK Tryd.func90 rfl rfl rfl ?_
  intro B h0
  cases used with
  | false =>
    refine LoadOb.mk [.pointer none] (blk_rd (cs := [.pointer none, os.val]) (k := 0) (n := 1) (T := 112) (List.mem_singleton.2 rfl) (by simp)) ?_
    refine .other (OtherOb.eqNil TrydEOK rfl (by simp) rfl rfl rfl rfl ?_)
    refine CondOb.mk (fun _ => ?_) (fun h => by cases h)
    refine OtherOb.conv rfl (by simp) rfl (fun w hw => Lib.run_to_unsafe (t := 112) (e := 112) (cells := 2) w ⟨b, 0, none⟩ (by kernel_rfl) (by kernel_rfl) (j := inf) hi (by rw [hi1]; decide) (shape_of (cs := #[.pointer none, os.val]) hw (List.mem_singleton.2 rfl)) (by simp)) ?_
    refine CallOb.mk [Bd.blk b ⟨false, os, bs⟩] [] _ (by simp) (NoEscape_spec _) ?_
    rintro v I' M' - ⟨rfl, rfl, rfl⟩
    refine OtherOb.conv rfl (by simp) rfl (fun w hw => Lib.run_from_unsafe (u := 112) (e := 112) (cells := 2) w ⟨b, 0, none⟩ (by kernel_rfl) (by kernel_rfl) (j := inf) hi (shape_of (cs := #[.pointer none, os.val]) hw (List.mem_singleton.2 rfl)) (by kernel_rfl)) ?_
    refine StoreOb.add [] [] _ _ rfl (Nat.le_of_ble_eq_true rfl) rfl ?_
    exact ⟨_, _, .refl, rfl, rfl, rfl⟩
  | true =>
    refine LoadOb.mk [ptr b] (blk_rd (cs := [ptr b, os.val]) (k := 0) (n := 1) (T := 112) (List.mem_singleton.2 rfl) (by simp)) ?_
    refine .other (OtherOb.eqNil TrydEOK rfl (by simp) rfl rfl rfl rfl ?_)
    refine CondOb.mk (fun h => by cases h) (fun _ => ?_)
    refine LoadOb.mk [ptr b] (blk_rd (cs := [ptr b, os.val]) (k := 0) (n := 1) (T := 112) (List.mem_singleton.2 rfl) (by simp)) ?_
    refine .other (OtherOb.neSame TrydEOK rfl (by simp) rfl rfl rfl rfl rfl ?_)
    refine CondOb.mk (fun h => by cases h) (fun _ => ?_)
    exact ⟨_, _, .refl, rfl, rfl, rfl⟩

theorem Wk_perm {foot : List Nat} {I : GH} {M M' : List Blk} (h : M.Perm M') : Wk foot I M I M' := .perm h .refl

theorem WriteByte_spec {I : GH} (b : Nat) {x : Bd} (hx : x.ok) (c : UInt8) (hl : x.bs.length < 70368744177664) : Spec Tryd.prog 91 [ptr b, .int .u8 c.toNat] I (x.M b)
    fun r I' M' => r = .nilIface ∧ I' = I ∧ ∃ y : Bd, y.ok ∧ y.bs = x.bs ++ [c] ∧ M' = y.M b := by
  refine spec_of_V [] TrydEOK Tryd.func91 rfl rfl rfl ?_
  intro B h0
  have hn := hx.n
  refine CallOb.mk [x.blk b] (x.os.blk 5) _ (.refl _) (copyCheck_spec b x) ?_
  rintro v I' M' - ⟨rfl, rfl, rfl⟩
  refine LoadOb.mk [x.os.val] (blk_rd (cs := [ptr b, x.os.val]) (k := 1) (n := 1) (T := 112) (.head _) (by simp)) ?_
  refine AllocOb.mk fun g hg hgM => ?_
  refine OtherOb.append TrydEOK rfl (by simp) (e := 5) rfl rfl rfl x.os (xs := bytesV x.bs) hx.os rfl (m := 1) rfl (news := [.int .u8 c.toNat]) (by decide) ?_ rfl (Mr := [⟨g, .cells #[.int .u8 c.toNat] 5 (0, 0)⟩, { x with used := true : Bd }.blk b]) ?_ ?_ ?_ ?_
  · exact blk_rd (cs := [.int .u8 c.toNat]) (k := 0) (n := 1) (T := 5) (.head _) (by simp)
  · exact List.perm_append_comm (l₁ := [_, _]) (l₂ := x.os.blk 5)
  · simp only [maxLen]; omega
  · show (x.os.n + 1) * 1 ≤ _
    omega
  · intro g' c' cur h1 h2 h3 h4
    refine StoreOb.add [⟨g', .cells cur.toArray 5 (0, 0)⟩, ⟨g, .cells #[.int .u8 c.toNat] 5 (0, 0)⟩] [] _ _ rfl (Nat.le_of_ble_eq_true rfl) rfl ?_
    refine ⟨_, _, .perm (M1 := [⟨g, .cells #[.int .u8 c.toNat] 5 (0, 0)⟩] ++ Bd.M b ⟨true, ⟨some g', x.os.n + 1, c', cur⟩, x.bs ++ [c]⟩) ?_ (.sub (List.sublist_append_right _ _) .refl), rfl, rfl, _, ?_, rfl, rfl⟩
    · exact List.perm_append_comm (l₁ := [_]) (l₂ := [_, _])
    · refine ⟨⟨?_, fun h => by simp at h, ?_⟩, by simp⟩
      · simp [bytesV, hn]
      · intro g2 hg2
        refine ⟨h1, h2, h3, ?_⟩
        rw [h4]
        simp [bytesV]

theorem WriteString_spec {I : GH} (b : Nat) {x : Bd} (hx : x.ok) (s : ByteArray) (hl : x.bs.length + s.size ≤ 70368744177664) : Spec Tryd.prog 85 [ptr b, .string s] I (x.M b)
    fun r I' M' => r = .tuple #[.int .i64 s.size, .nilIface] ∧ I' = I ∧ ∃ y : Bd, y.ok ∧ y.bs = x.bs ++ s.data.toList ∧ M' = y.M b := by
  refine spec_of_V [] TrydEOK Tryd.func85 rfl rfl rfl ?_
  intro B h0
  have hn := hx.n
  refine CallOb.mk [x.blk b] (x.os.blk 5) _ (.refl _) (copyCheck_spec b x) ?_
  rintro v I' M' - ⟨rfl, rfl, rfl⟩
  refine LoadOb.mk [x.os.val] (blk_rd (cs := [ptr b, x.os.val]) (k := 1) (n := 1) (T := 112) (.head _) (by simp)) ?_
  by_cases hs : s.size = 0
  · have he : s = .empty := ByteArray.ext (Array.eq_empty_of_size_eq_zero hs)
    subst he
    have hnc : x.os.n ≤ x.os.c := by
      cases ha : x.os.a with
      | none => obtain ⟨h1, h2⟩ := hx.os.nil ha; omega
      | some g => exact (hx.os.cap g ha).2.1
    refine OtherOb.append0 TrydEOK rfl (by simp) (e := 5) rfl rfl rfl (by simp) rfl rfl hnc rfl (.inr rfl) ?_
    refine StoreOb.add [] (x.os.blk 5) _ _ rfl (Nat.le_of_ble_eq_true rfl) rfl ?_
    exact ⟨_, _, .refl, rfl, rfl, ⟨true, x.os, x.bs⟩, ⟨hx.os, hx.ne⟩, by simp, rfl⟩
  · refine OtherOb.appendS TrydEOK rfl (by simp) (e := 5) rfl rfl rfl rfl rfl rfl x.os (xs := bytesV x.bs) hx.os rfl rfl (by omega) (Mr := [{ x with used := true : Bd }.blk b]) (List.perm_append_comm (l₁ := [_])) ?_ ?_ ?_
    · simp only [maxLen]; omega
    · show (x.os.n + s.size) * 1 ≤ _
      omega
    · intro g' c' cur h1 h2 h3 h4
      refine StoreOb.add [⟨g', .cells cur.toArray 5 (0, 0)⟩] [] _ _ rfl (Nat.le_of_ble_eq_true rfl) rfl ?_
      refine ⟨_, _, .perm (M1 := Bd.M b ⟨true, ⟨some g', x.os.n + s.size, c', cur⟩, x.bs ++ s.data.toList⟩) ?_ .refl, rfl, rfl, _, ?_, rfl, rfl⟩
      · exact List.perm_append_comm (l₁ := [_]) (l₂ := [_])
      · refine ⟨⟨?_, fun h => by simp at h, ?_⟩, fun g _ h => ?_⟩
        · simp [bytesV, hn]
        · intro g2 hg2
          refine ⟨h1, h2, h3, ?_⟩
          rw [h4]
          simp [bytesV, byteVals]
        · have h5 := congrArg List.length (List.append_eq_nil_iff.1 h).2
          exact hs (by simpa using h5)

theorem BString_spec {I : GH} (b : Nat) {x : Bd} (hx : x.ok) (hl : x.bs.length ≤ 70368744177664) : Spec Tryd.prog 86 [ptr b] I (x.M b)
    fun r I' M' => r = .string ⟨x.bs.toArray⟩ ∧ I' = I ∧ M' = [] := by
  refine spec_of_V [] TrydEOK Tryd.func86 rfl rfl rfl ?_
  intro B h0
  have hn := hx.n
  obtain ⟨used, ⟨a, n, c, cur⟩, bs⟩ := x
  simp only at hn hl
  subst hn
  refine CodeOb.draw TrydEOK rfl rfl rfl ?_
  cases a with
  | none =>
    obtain ⟨h1, h2⟩ := hx.os.nil rfl
    simp only at h1 h2
    have hbs : bs = [] := List.eq_nil_of_length_eq_zero h1
    subst hbs
    subst h2
    refine LoadOb.mk [.slice none 0 0] (blk_rd (cs := [.pointer (bif used then some ⟨b, 0, none⟩ else none), .slice none 0 0]) (k := 1) (n := 1) (T := 112) (.head _) (by simp)) ?_
    refine LoadOb.mk [.slice none 0 0] (blk_rd (cs := [.pointer (bif used then some ⟨b, 0, none⟩ else none), .slice none 0 0]) (k := 1) (n := 1) (T := 112) (.head _) (by simp)) ?_
    refine OtherOb.ustring0 rfl (by simp) rfl rfl ?_
    exact ⟨_, _, .sub (List.nil_sublist _) .refl, rfl, rfl, rfl⟩
  | some g =>
    obtain ⟨h1, h2, h3, h4⟩ := hx.os.cap g rfl
    have hne := hx.ne g rfl
    simp only at h1 h2 h3 h4 hne
    have hpos : bs.length ≠ 0 := fun h => hne (List.eq_nil_of_length_eq_zero h)
    refine LoadOb.mk [.slice (some ⟨g, 0, none⟩) bs.length c] (blk_rd (cs := [.pointer (bif used then some ⟨b, 0, none⟩ else none), .slice (some ⟨g, 0, none⟩) bs.length c]) (k := 1) (n := 1) (T := 112) (.head _) (by simp)) ?_
    refine DivOb.mk (by omega) ?_
    refine LoadOb.mk [.slice (some ⟨g, 0, none⟩) bs.length c] (blk_rd (cs := [.pointer (bif used then some ⟨b, 0, none⟩ else none), .slice (some ⟨g, 0, none⟩) bs.length c]) (k := 1) (n := 1) (T := 112) (.head _) (by simp)) ?_
    refine OtherOb.ustring TrydEOK rfl (by simp) (e := 5) rfl rfl rfl rfl (l := bs) (g := g) (cs := cur.toArray) rfl rfl hne (by omega) (Mr := [Bd.blk b ⟨used, ⟨some g, bs.length, c, cur⟩, bs⟩]) (List.perm_append_comm (l₁ := [_]) (l₂ := [_])) ?_ ?_
    · rw [Nat.mul_one] at h4
      exact h4
    · exact ⟨_, _, .sub (List.nil_sublist _) .refl, rfl, rfl, rfl⟩

/-! ### A byte's sign -/
def plainB (c : UInt8) (left : ByteArray) : Bool := decide ((32 : Int) ≤ c.toNat) && (decide ((c.toNat : Int) ≤ 126) && (!decide ((c.toNat : Int) = 92) && decide (Lib.indexByte left.data.toList c < 0)))
theorem plain_spec {I : GH} (c : UInt8) (left : ByteArray) : Spec Tryd.prog 103 [.int .u8 c.toNat, .string left] I [] fun r I' M' => r = .bool (plainB c left) ∧ I' = I ∧ M' = [] := by
  refine spec_of_V [] TrydEOK Tryd.func103 rfl rfl rfl ?_
  intro B h0
  refine GuardOb.mk (fun h1 => ?_) (fun h1 => ?_)
  · refine GuardOb.mk (fun h2 => ?_) (fun h2 => ?_)
    · refine GuardOb.mk (fun h3 => ?_) (fun h3 => ?_)
      · refine CallOb.mk [] [] _ (.refl _) (IndexByte_spec left c) ?_
        rintro v I' M' - ⟨rfl, rfl, rfl⟩
        refine ⟨_, _, .refl, ?_, rfl, rfl⟩
        simp only [plainB, h1, h2, h3, Bool.true_and]
      · refine ⟨_, _, .refl, ?_, rfl, rfl⟩
        simp only [plainB, h1, h2, h3, Bool.true_and, Bool.not_true, Bool.false_and]
    · refine ⟨_, _, .refl, ?_, rfl, rfl⟩
      simp only [plainB, h1, h2, Bool.true_and, Bool.not_true, Bool.false_and]
  · refine ⟨_, _, .refl, ?_, rfl, rfl⟩
    simp only [plainB, h1, Bool.true_and, Bool.not_true, Bool.false_and]

def hexL : ByteArray := ⟨#[48, 49, 50, 51, 52, 53, 54, 55, 56, 57, 97, 98, 99, 100, 101, 102]⟩
def hexd (n : Nat) : UInt8 := hexL.data.toList.getD n 0
def putB (c : UInt8) (left : ByteArray) : List UInt8 :=
  bif plainB c left then [c] else
  bif decide ((c.toNat : Int) = 10) then [92, 110] else
  bif decide ((c.toNat : Int) = 13) then [92, 114] else
  bif decide ((c.toNat : Int) = 9) then [92, 116] else
  bif decide ((c.toNat : Int) = 92) || decide ((0 : Int) ≤ Lib.indexByte left.data.toList c) then [92, c] else [92, 120, hexd (c.toNat / 16), hexd (c.toNat % 16)]
theorem putB_len (c : UInt8) (left : ByteArray) : (putB c left).length ≤ 4 := by
  unfold putB
  cases plainB c left <;> cases decide ((c.toNat : Int) = 10) <;> cases decide ((c.toNat : Int) = 13) <;> cases decide ((c.toNat : Int) = 9) <;> cases (decide ((c.toNat : Int) = 92) || decide ((0 : Int) ≤ Lib.indexByte left.data.toList c)) <;> simp
theorem and15 : ∀ n : Nat, n < 256 → IntKind.u8.wrap ((BitVec.ofInt 8 (n : Int)) &&& (BitVec.ofInt 8 15)).toNat = ((n % 16 : Nat) : Int) := by decide +kernel
theorem hex_at {j : Nat} (hj : j < hexL.size) : hexL[j] = hexd j := by
  have : j < hexL.data.toList.length := hj
  simp only [hexd, List.getD_eq_getElem?_getD, List.getElem?_eq_getElem this, Option.getD_some]
  rfl

set_option maxHeartbeats 2000000 in
theorem put_spec {I : GH} (b : Nat) {x : Bd} (hx : x.ok) (c : UInt8) (left : ByteArray) (hl : x.bs.length ≤ 70368744177600) : Spec Tryd.prog 99 [ptr b, .int .u8 c.toNat, .string left] I (x.M b)
    fun r I' M' => I' = I ∧ ∃ y : Bd, y.ok ∧ y.bs = x.bs ++ putB c left ∧ M' = y.M b := by
  refine spec_of_V [] TrydEOK Tryd.func99 rfl rfl rfl ?_
  intro B h0
  refine CallOb.mk [] (x.M b) _ (.refl _) (plain_spec c left) ?_
  rintro v I' M' - ⟨rfl, rfl, rfl⟩
  refine CondOb.mk (fun h1 => ?_) (fun h1 => ?_)
  · refine CallOb.mk (x.M b) [] _ (by simp) (WriteByte_spec b hx c (by omega)) ?_
    rintro v I' M' - ⟨rfl, rfl, y, hy, hyb, rfl⟩
    refine ⟨_, _, .refl, rfl, y, hy, ?_, by simp⟩
    rw [hyb, putB, h1]
    rfl
  · refine CondOb.mk (fun h2 => ?_) (fun h2 => ?_)
    · refine CallOb.mk (x.M b) [] _ (by simp) (WriteString_spec b hx _ (by show _ + 2 ≤ _; omega)) ?_
      rintro v I' M' - ⟨rfl, rfl, y, hy, hyb, rfl⟩
      refine ⟨_, _, .refl, rfl, y, hy, ?_, by simp⟩
      rw [hyb, putB, h1, h2]
      rfl
    · refine CondOb.mk (fun h3 => ?_) (fun h3 => ?_)
      · refine CallOb.mk (x.M b) [] _ (by simp) (WriteString_spec b hx _ (by show _ + 2 ≤ _; omega)) ?_
        rintro v I' M' - ⟨rfl, rfl, y, hy, hyb, rfl⟩
        refine ⟨_, _, .refl, rfl, y, hy, ?_, by simp⟩
        rw [hyb, putB, h1, h2, h3]
        rfl
      · refine CondOb.mk (fun h4 => ?_) (fun h4 => ?_)
        · refine CallOb.mk (x.M b) [] _ (by simp) (WriteString_spec b hx _ (by show _ + 2 ≤ _; omega)) ?_
          rintro v I' M' - ⟨rfl, rfl, y, hy, hyb, rfl⟩
          refine ⟨_, _, .refl, rfl, y, hy, ?_, by simp⟩
          rw [hyb, putB, h1, h2, h3, h4]
          rfl
        · have two : ∀ (I1 : GH), (decide ((c.toNat : Int) = 92) || decide ((0 : Int) ≤ Lib.indexByte left.data.toList c)) = true → putB c left = [92, c] := fun _ h => by
            rw [putB, h1, h2, h3, h4, h]
            rfl
          have other : (decide ((c.toNat : Int) = 92) || decide ((0 : Int) ≤ Lib.indexByte left.data.toList c)) = false → putB c left = [92, 120, hexd (c.toNat / 16), hexd (c.toNat % 16)] := fun h => by
            rw [putB, h1, h2, h3, h4, h]
            rfl
          have hc := c.toNat_lt
          refine GuardOb.mk (fun h5 => ?_) (fun h5 => ?_)
          · refine CallOb.mk [] (x.M b) _ (.refl _) (IndexByte_spec left c) ?_
            rintro v I' M' - ⟨rfl, rfl, rfl⟩
            refine CondOb.mk (fun h6 => ?_) (fun h6 => ?_)
            · refine CallOb.mk (x.M b) [] _ (by simp) (WriteByte_spec b hx 92 (by omega)) ?_
              rintro v I' M' - ⟨rfl, rfl, y, hy, hyb, rfl⟩
              refine CallOb.mk (y.M b) [] _ (by simp) (WriteByte_spec b hy c (by rw [hyb]; simp; omega)) ?_
              rintro v I' M' - ⟨rfl, rfl, z, hz, hzb, rfl⟩
              refine ⟨_, _, .refl, rfl, z, hz, ?_, by simp⟩
              rw [hzb, hyb, two I' (by rw [h5]; exact h6)]
              simp
            · refine CallOb.mk (x.M b) [] _ (by simp) (WriteString_spec b hx _ (by show _ + 2 ≤ _; omega)) ?_
              rintro v I' M' - ⟨rfl, rfl, y, hy, hyb, rfl⟩
              have hyl : y.bs.length = x.bs.length + 2 := by rw [hyb]; simp
              refine ShOb.mk 4 rfl ?_
              refine StrOb.mk (s := hexL) (c.toNat / 16) ?_ (by show _ < 16; omega) ?_
              · show (c.toNat : Int).fdiv (2 ^ (min 4 (IntKind.u8.bits))) = _
                have e16 : ((2 : Int) ^ (min 4 IntKind.u8.bits)) = 16 := by decide
                rw [e16, Int.fdiv_eq_ediv_of_nonneg _ (by omega)]
                omega
              rw [hex_at]
              refine CallOb.mk (y.M b) [] _ (by simp) (WriteByte_spec b hy (hexd (c.toNat / 16)) (by omega)) ?_
              rintro v I' M' - ⟨rfl, rfl, z, hz, hzb, rfl⟩
              have hzl : z.bs.length = x.bs.length + 3 := by rw [hzb]; simp; omega
              refine StrOb.mk (s := hexL) (c.toNat % 16) (and15 c.toNat hc) (by show _ < 16; omega) ?_
              rw [hex_at]
              refine CallOb.mk (z.M b) [] _ (by simp) (WriteByte_spec b hz (hexd (c.toNat % 16)) (by omega)) ?_
              rintro v I' M' - ⟨rfl, rfl, u, hu, hub, rfl⟩
              refine ⟨_, _, .refl, rfl, u, hu, ?_, by simp⟩
              rw [hub, hzb, hyb, other (by rw [h5]; exact h6)]
              simp
          · refine CallOb.mk (x.M b) [] _ (by simp) (WriteByte_spec b hx 92 (by omega)) ?_
            rintro v I' M' - ⟨rfl, rfl, y, hy, hyb, rfl⟩
            refine CallOb.mk (y.M b) [] _ (by simp) (WriteByte_spec b hy c (by rw [hyb]; simp; omega)) ?_
            rintro v I' M' - ⟨rfl, rfl, z, hz, hzb, rfl⟩
            refine ⟨_, _, .refl, rfl, z, hz, ?_, by simp⟩
            rw [hzb, hyb, two I' (by rw [h5]; rfl)]
            simp
end Go.V
