/-
  Walks: quote.Literal, quote.Class.
-/
import Derived.Test.YtcccmnppfmfkiaaDoorW8
set_option linter.unusedVariables false
set_option linter.unusedSimpArgs false
namespace Go.V
open Go Go.Proofs

theorem OS.ok.row {I : GH} {M : List Blk} {os : OS} {α : Type} {f : α → List Value} {size : Nat} (hf : ∀ x, (f x).length = size) (h0 : 0 < size) {l : List α} (h : os.ok size (l.flatMap f)) {e : Nat} (hM : ∀ x ∈ os.blk e, x ∈ M) {j : Nat} (hj : j < l.length) :
    ∃ ad, os.a.map (fun g => (⟨g, 0, none⟩ : Addr)) = some ad ∧ Rd I M (ad.add (j * size)) size (f l[j]) := by
  have hn : l.length = os.n := by
    have h1 := h.len
    rw [flat_len f size hf] at h1
    exact Nat.eq_of_mul_eq_mul_right h0 h1
  cases ha : os.a with
  | none => have := (h.nil ha).1; omega
  | some g =>
    obtain ⟨h1, h2, h3, h4⟩ := h.cap g ha
    refine ⟨⟨g, 0, none⟩, rfl, ?_⟩
    have hle : j * size + size ≤ os.n * size := by
      have := Nat.mul_le_mul_right size (show j + 1 ≤ os.n by omega)
      rw [Nat.add_mul, Nat.one_mul] at this
      exact this
    have hcl : os.n * size ≤ os.cur.length := by rw [h1]; exact Nat.mul_le_mul_right _ h2
    have := blk_rd (I := I) (M := M) (b := g) (T := e) (cs := os.cur) (hM _ (by simp [OS.blk, ha])) (k := j * size) (n := size) (by omega)
    have e1 : (os.cur.drop (j * size)).take size = f l[j] := by
      rw [← flat_at f size hf l j hj, ← h4, List.drop_take, List.take_take]
      congr 1
      omega
    rw [e1] at this
    exact this

def quoL : ByteArray := ⟨#[34]⟩
def clsL : ByteArray := ⟨#[93, 45, 94]⟩
def litB (s : ByteArray) : List UInt8 := [34] ++ s.data.toList.flatMap (putB · quoL) ++ [34]
def strOf (l : List UInt8) : ByteArray := ⟨l.toArray⟩
theorem flat_le {α β : Type} (f : α → List β) (m : Nat) (hf : ∀ x, (f x).length ≤ m) : ∀ l : List α, (l.flatMap f).length ≤ m * l.length
  | [] => by simp
  | x :: l => by
    have h1 := flat_le f m hf l
    have h2 := hf x
    simp only [List.flatMap_cons, List.length_append, List.length_cons, Nat.mul_add]
    omega

theorem Literal_spec {I : GH} (s : ByteArray) (hs : s.size ≤ 1099511627776) : Spec Tryd.prog 96 [.string s] I [] fun r I' M' => r = .string (strOf (litB s)) ∧ I' = I ∧ M' = [] := by
  refine spec_of_V [3] TrydEOK Tryd.func96 rfl rfl rfl ?_
  intro B h0
  refine AllocOb.mk fun b hb hbM => ?_
  refine CallOb.mk (Bd.new.M b) [] _ (.refl _) (WriteByte_spec b Bd.new_ok 34 (by decide)) ?_
  rintro v I' M' - ⟨rfl, rfl, x0, hx0, hb0, rfl⟩
  refine LoopOb.inv (ι := Nat × Bd) (fun p => { fl := [(0, .val (.string s)), (3, .val (ptr b)), (4, .val (.int .i64 p.1))], gi := I', mi := p.2.M b })
    (fun p => p.1 ≤ s.size ∧ p.2.ok ∧ p.2.bs = [34] ++ (s.data.toList.take p.1).flatMap (putB · quoL)) (fun p => s.size - p.1) ?_ ?_
  · exact ⟨(0, x0), ⟨by simp, hx0, by simp [hb0, Bd.new]⟩, .perm (by simp) .refl, .cons .refl (.cons .refl (.cons .refl .nil)), .nil⟩
  · rintro ⟨i, x⟩ ⟨hi, hx, hxb⟩
    simp only at hi hx hxb
    have hlen : x.bs.length ≤ 1 + 4 * i := by
      rw [hxb]
      have := flat_le (putB · quoL) 4 (fun c => putB_len c quoL) (s.data.toList.take i)
      have h2 := List.length_take_le i s.data.toList
      simp only [List.length_append, List.length_cons, List.length_nil]
      omega
    refine CondOb.mk (fun h => ?_) (fun h => ?_)
    · have hlt : i < s.size := by simpa using h
      have hlt' : i < s.data.toList.length := hlt
      refine StrOb.mk i rfl hlt ?_
      refine CallOb.mk (x.M b) [] _ (by simp) (put_spec b hx s[i] quoL (by omega)) ?_
      rintro v I' M' - ⟨rfl, y, hy, hyb, rfl⟩
      have hwr : IntKind.i64.wrap ((i : Int) + 1) = ((i + 1 : Nat) : Int) := by
        rw [wrap_i64 ⟨by omega, by omega⟩]
        omega
      refine ArithOb.mk _ hwr ?_
      refine ⟨(i + 1, y), ⟨⟨by simp only; omega, hy, ?_⟩, by simp only; omega⟩, .perm (by simp) .refl, .cons .refl (.cons .refl (.cons .refl .nil)), .nil⟩
      simp only
      rw [hyb, hxb, List.take_succ_eq_append_getElem hlt', List.flatMap_append, List.append_assoc]
      congr 1
      simp
      rfl
    · have hge : s.size ≤ i := by simpa using h
      have hall : s.data.toList.take i = s.data.toList := List.take_of_length_le hge
      refine CallOb.mk (x.M b) [] _ (by simp) (WriteByte_spec b hx 34 (by omega)) ?_
      rintro v I' M' - ⟨rfl, rfl, y, hy, hyb, rfl⟩
      refine CallOb.mk (y.M b) [] _ (by simp) (BString_spec b hy (by rw [hyb]; simp; omega)) ?_
      rintro v I' M' - ⟨rfl, rfl, rfl⟩
      refine ⟨_, _, .refl, ?_, rfl, by simp⟩
      rw [hyb, hxb, hall]
      rfl

def runB (p : UInt8 × UInt8) : List UInt8 :=
  putB p.1 clsL ++ ((bif decide (1 < IntKind.u8.wrap ((p.2.toNat : Int) - p.1.toNat)) then [45] else []) ++ (bif !decide ((p.2.toNat : Int) = p.1.toNat) then putB p.2 clsL else []))
def classB (deb : List Int) (a b c d : Int) : List UInt8 :=
  bif (a == notV 0 && (b == notV 0 && (c == notV 0 && d == notV 0))) then [46] else [91] ++ (runsOf (eachFrom deb 0 [a, b, c, d])).flatMap runB ++ [93]
theorem runB_len (p : UInt8 × UInt8) : (runB p).length ≤ 9 := by
  have h1 := putB_len p.1 clsL
  have h2 := putB_len p.2 clsL
  unfold runB
  cases decide (1 < IntKind.u8.wrap ((p.2.toNat : Int) - p.1.toNat)) <;> cases decide ((p.2.toNat : Int) = p.1.toNat) <;> simp <;> omega
theorem runs_le (deb : List Int) (a b c d : Int) : (runsOf (eachFrom deb 0 [a, b, c, d])).length ≤ 256 := by
  have h1 := eachFrom_len deb [a, b, c, d] 0
  have h2 := runsOf_len (eachFrom deb 0 [a, b, c, d])
  simp only [List.length_cons, List.length_nil] at h1
  omega
theorem classB_len (deb : List Int) (a b c d : Int) : (classB deb a b c d).length ≤ 2306 := by
  have h1 := runs_le deb a b c d
  have h2 := flat_le runB 9 runB_len (runsOf (eachFrom deb 0 [a, b, c, d]))
  unfold classB
  cases (a == notV 0 && (b == notV 0 && (c == notV 0 && d == notV 0)))
  · simp only [cond_false, List.length_append, List.length_cons, List.length_nil]
    omega
  · simp

set_option maxHeartbeats 1000000 in
theorem Class_spec {I : GH} {deb : List Int} (hdeb : HasDeb I deb) {a b c d : Int} (hws : ∀ x ∈ [a, b, c, d], u64ok x) : Spec Tryd.prog 97 [.agg #[.int .u64 a, .int .u64 b, .int .u64 c, .int .u64 d]] I []
    fun r I' M' => r = .string (strOf (classB deb a b c d)) ∧ (∀ b o, I b = some o → I' b = some o) ∧ M' = [] := by
  refine spec_of_V [3] TrydEOK Tryd.func97 rfl rfl rfl ?_
  intro B h0
  refine CodeOb.draw TrydEOK rfl rfl rfl ?_
  refine PCallOb.mk _ All_spec ?_
  rintro v I' M' - ⟨rfl, rfl, rfl⟩
  refine BinOb.eq4 TrydEOK (e := 27) rfl rfl rfl rfl (by kernel_rfl) ?_
  refine CondOb.mk (fun h => ?_) (fun h => ?_)
  · refine ⟨_, _, .refl, ?_, fun _ _ h => h, rfl⟩
    simp only [classB, h]
    rfl
  · refine AllocOb.mk fun g hg hgM => ?_
    refine CallOb.mk (Bd.new.M g) [] _ (.refl _) (WriteByte_spec g Bd.new_ok 91 (by decide)) ?_
    rintro v I' M' - ⟨rfl, rfl, x0, hx0, hb0, rfl⟩
    refine CallOb.mk [] (x0.M g) _ (by simp) (Runs_spec hdeb hws) ?_
    rintro v I1 M1 - ⟨hI1, os, rfl, hos, rfl⟩
    have hrl := runs_le deb a b c d
    have hcl : classB deb a b c d = [91] ++ (runsOf (eachFrom deb 0 [a, b, c, d])).flatMap runB ++ [93] := by
      simp only [classB, h]
      rfl
    generalize hrs : runsOf (eachFrom deb 0 [a, b, c, d]) = rs at *
    have hn : rs.length = os.n := by
      have := hos.len
      rw [pairV_len] at this
      omega
    refine LoopOb.inv (ι := Nat × Bd) (fun p => { fl := [(3, .val (ptr g)), (11, .val os.val), (12, .val (.int .i64 os.n)), (13, .val (.int .i64 p.1))], gi := I1, mi := p.2.M g ++ os.blk 138 })
      (fun p => p.1 ≤ os.n ∧ p.2.ok ∧ p.2.bs = [91] ++ (rs.take p.1).flatMap runB) (fun p => os.n - p.1) ?_ ?_
    · exact ⟨(0, x0), ⟨by simp, hx0, by simp [hb0, Bd.new]⟩, .perm (by simpa using List.perm_append_comm) .refl, .cons .refl (.cons .refl (.cons .refl (.cons .refl .nil))), .nil⟩
    · rintro ⟨i, x⟩ ⟨hi, hx, hxb⟩
      simp only at hi hx hxb
      have hlen : x.bs.length ≤ 1 + 9 * i := by
        rw [hxb]
        have := flat_le runB 9 runB_len (rs.take i)
        have h2 := List.length_take_le i rs
        simp only [List.length_append, List.length_cons, List.length_nil]
        omega
      refine CondOb.mk (fun h => ?_) (fun h => ?_)
      · have hlt : i < os.n := by simpa using h
        have hlt' : i < rs.length := by omega
        obtain ⟨ad, had, hrd⟩ := OS.ok.row (I := I1) (M := x.M g ++ os.blk 138) (f := pairC) (fun _ => rfl) (by decide) hos (e := 138) (fun y hy => by simp [hy]) hlt'
        refine IdxOb.mk ad i had rfl hlt ?_
        refine LoadOb.mk _ hrd ?_
        generalize hp : rs[i] = p
        refine ArrOb.mk 0 rfl (by decide) ?_
        refine CallOb.mk (x.M g) (os.blk 138) _ (.refl _) (put_spec g hx p.1 clsL (by omega)) ?_
        rintro v I' M' - ⟨rfl, y, hy, hyb, rfl⟩
        have hyl : y.bs.length ≤ 5 + 9 * i := by
          rw [hyb, List.length_append]
          have := putB_len p.1 clsL
          omega
        refine ArrOb.mk 1 rfl (by decide) ?_
        refine ArrOb.mk 0 rfl (by decide) ?_
        refine ArithOb.mk _ rfl ?_
        refine CondOb.mk (fun k1 => ?_) (fun k1 => ?_)
        · refine CallOb.mk (y.M g) (os.blk 138) _ (by simp) (WriteByte_spec g hy 45 (by omega)) ?_
          rintro v I' M' - ⟨rfl, rfl, u, hu, hub, rfl⟩
          have hul : u.bs.length ≤ 6 + 9 * i := by rw [hub]; simp; omega
          refine ArrOb.mk 1 rfl (by decide) ?_
          refine ArrOb.mk 0 rfl (by decide) ?_
          refine CondOb.mk (fun k2 => ?_) (fun k2 => ?_)
          · refine ArrOb.mk 1 rfl (by decide) ?_
            refine CallOb.mk (u.M g) (os.blk 138) _ (by simp) (put_spec g hu p.2 clsL (by omega)) ?_
            rintro v I' M' - ⟨rfl, z, hz, hzb, rfl⟩
            have hwr : IntKind.i64.wrap ((i : Int) + 1) = ((i + 1 : Nat) : Int) := by
              rw [wrap_i64 ⟨by omega, by omega⟩]
              omega
            refine ArithOb.mk _ hwr ?_
            refine ⟨(i + 1, z), ⟨⟨by simp only; omega, hz, ?_⟩, by simp only; omega⟩, .perm (by simp) .refl, .cons .refl (.cons .refl (.cons .refl (.cons .refl .nil))), .nil⟩
            simp only
            rw [hzb, hub, hyb, hxb, List.take_succ_eq_append_getElem hlt', List.flatMap_append, hp]
            simp [runB, k1, k2]
          · have hwr : IntKind.i64.wrap ((i : Int) + 1) = ((i + 1 : Nat) : Int) := by
              rw [wrap_i64 ⟨by omega, by omega⟩]
              omega
            refine ArithOb.mk _ hwr ?_
            refine ⟨(i + 1, u), ⟨⟨by simp only; omega, hu, ?_⟩, by simp only; omega⟩, .perm (by simp) .refl, .cons .refl (.cons .refl (.cons .refl (.cons .refl .nil))), .nil⟩
            simp only
            rw [hub, hyb, hxb, List.take_succ_eq_append_getElem hlt', List.flatMap_append, hp]
            simp [runB, k1, k2]
        · refine ArrOb.mk 1 rfl (by decide) ?_
          refine ArrOb.mk 0 rfl (by decide) ?_
          refine CondOb.mk (fun k2 => ?_) (fun k2 => ?_)
          · refine ArrOb.mk 1 rfl (by decide) ?_
            refine CallOb.mk (y.M g) (os.blk 138) _ (by simp) (put_spec g hy p.2 clsL (by omega)) ?_
            rintro v I' M' - ⟨rfl, z, hz, hzb, rfl⟩
            have hwr : IntKind.i64.wrap ((i : Int) + 1) = ((i + 1 : Nat) : Int) := by
              rw [wrap_i64 ⟨by omega, by omega⟩]
              omega
            refine ArithOb.mk _ hwr ?_
            refine ⟨(i + 1, z), ⟨⟨by simp only; omega, hz, ?_⟩, by simp only; omega⟩, .perm (by simp) .refl, .cons .refl (.cons .refl (.cons .refl (.cons .refl .nil))), .nil⟩
            simp only
            rw [hzb, hyb, hxb, List.take_succ_eq_append_getElem hlt', List.flatMap_append, hp]
            simp [runB, k1, k2]
          · have hwr : IntKind.i64.wrap ((i : Int) + 1) = ((i + 1 : Nat) : Int) := by
              rw [wrap_i64 ⟨by omega, by omega⟩]
              omega
            refine ArithOb.mk _ hwr ?_
            refine ⟨(i + 1, y), ⟨⟨by simp only; omega, hy, ?_⟩, by simp only; omega⟩, .perm (by simp) .refl, .cons .refl (.cons .refl (.cons .refl (.cons .refl .nil))), .nil⟩
            simp only
            rw [hyb, hxb, List.take_succ_eq_append_getElem hlt', List.flatMap_append, hp]
            simp [runB, k1, k2]
      · have hge : os.n ≤ i := by simpa using h
        have hall : rs.take i = rs := List.take_of_length_le (by omega)
        refine CallOb.mk (x.M g) (os.blk 138) _ (.refl _) (WriteByte_spec g hx 93 (by omega)) ?_
        rintro v I' M' - ⟨rfl, rfl, y, hy, hyb, rfl⟩
        refine CallOb.mk (y.M g) (os.blk 138) _ (.refl _) (BString_spec g hy (by rw [hyb]; simp; omega)) ?_
        rintro v I' M' - ⟨rfl, rfl, rfl⟩
        refine ⟨_, _, .sub (List.nil_sublist _) .refl, ?_, hI1, rfl⟩
        rw [hyb, hxb, hall, hcl]
        rfl
end Go.V
