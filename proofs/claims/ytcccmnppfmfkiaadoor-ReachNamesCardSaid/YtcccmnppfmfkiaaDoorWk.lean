/-
  Walks: reach.Self, slices.ContainsFunc, slices.IndexFunc.
-/
import Derived.Test.YtcccmnppfmfkiaaDoorWj
set_option linter.unusedVariables false
set_option linter.unusedSimpArgs false
namespace Go.V
open Go Go.Proofs

/-- Whether one of them is as asked for; where. -/
def idxOf (q : Int → Bool) : List Int → Nat → Int
  | [], _ => -1
  | k :: ks, i => bif q k then (i : Int) else idxOf q ks (i + 1)
theorem idxOf_ge (q : Int → Bool) : ∀ (l : List Int) (i : Nat), decide ((0 : Int) ≤ idxOf q l i) = l.any q
  | [], i => by simp [idxOf]
  | k :: ks, i => by
    have := idxOf_ge q ks (i + 1)
    unfold idxOf
    cases h : q k with
    | true => simp [h]
    | false => simpa [h] using this

theorem IndexFunc_spec {I : GH} {M : List Blk} {r : Rw} (hr : r.ok I) {f : Nat} {cap : Array Value} (q : Int → Bool) (hf : ∀ k ∈ r.l, ∀ I1, (∀ b o, I b = some o → I1 b = some o) → Spec Tryd.prog f (.int .i64 k :: cap.toList) I1 M fun v I' M' => v = .bool (q k) ∧ (∀ b o, I1 b = some o → I' b = some o) ∧ M' = M) :
    Spec Tryd.prog 56 [r.val, .func (.func f) #[] cap] I M fun v I' M' => v = .int .i64 (idxOf q r.l 0) ∧ (∀ b o, I b = some o → I' b = some o) ∧ M' = M := by
  refine spec_of_V [] TrydEOK Tryd.func56 rfl rfl rfl ?_
  intro B h0
  have hrn := hr.n
  have hrc := hr.rs.cap
  refine LoopOb.inv (ι := Nat × GH) (fun x => { fl := [(0, .val r.val), (1, .val (.func (.func f) #[] cap)), (7, .val (.int .i64 r.n)), (8, .val (.int .i64 x.1))], gi := x.2, mi := M })
    (fun x => x.1 ≤ r.n ∧ (∀ b o, I b = some o → x.2 b = some o) ∧ idxOf q r.l 0 = idxOf q (r.l.drop x.1) x.1) (fun x => r.n - x.1) ?_ ?_
  · exact ⟨(0, I), ⟨by simp, fun _ _ h => h, rfl⟩, .refl, .cons .refl (.cons .refl (.cons .refl (.cons .refl .nil))), .nil⟩
  · rintro ⟨i, I1⟩ ⟨hi, hI1, hx⟩
    simp only at hi hI1 hx
    refine CondOb.mk (fun h => ?_) (fun h => ?_)
    · have hlt : i < r.n := by simpa using h
      have hlt' : i < r.l.length := by omega
      obtain ⟨ad, had, hrd⟩ := (hr.mono hI1).rs.one hlt hlt'
      have hdrop : r.l.drop i = r.l[i] :: r.l.drop (i + 1) := List.drop_eq_getElem_cons hlt'
      refine IdxOb.mk ad i had rfl hlt ?_
      refine LoadOb.mk _ (hrd _) ?_
      refine CallOb.mk M [] _ (by simp) (hf _ (List.getElem_mem hlt') I1 hI1) ?_
      rintro v I2 M2 hI2 ⟨rfl, -, rfl⟩
      refine CondOb.mk (fun h2 => ?_) (fun h2 => ?_)
      · refine ⟨_, _, .refl, ?_, fun b o h => hI2 _ _ (hI1 _ _ h), by simp⟩
        rw [hx, hdrop, idxOf, h2]
        rfl
      · refine ArithOb.mk _ (next_wr (i := i) (by omega)) ?_
        refine ⟨(i + 1, I2), ⟨⟨by simp only; omega, fun b o h => hI2 _ _ (hI1 _ _ h), ?_⟩, by simp only; omega⟩, .perm (by simp) .refl, .cons .refl (.cons .refl (.cons .refl (.cons .refl .nil))), .nil⟩
        simp only
        rw [hx, hdrop, idxOf, h2]
        rfl
    · have hge : r.n ≤ i := by simpa using h
      refine ⟨_, _, .refl, ?_, hI1, rfl⟩
      rw [hx, List.drop_eq_nil_of_le (by omega)]
      rfl
theorem ContainsFunc_spec {I : GH} {M : List Blk} {r : Rw} (hr : r.ok I) {f : Nat} {cap : Array Value} (q : Int → Bool) (hf : ∀ k ∈ r.l, ∀ I1, (∀ b o, I b = some o → I1 b = some o) → Spec Tryd.prog f (.int .i64 k :: cap.toList) I1 M fun v I' M' => v = .bool (q k) ∧ (∀ b o, I1 b = some o → I' b = some o) ∧ M' = M) :
    Spec Tryd.prog 39 [r.val, .func (.func f) #[] cap] I M fun v I' M' => v = .bool (r.l.any q) ∧ (∀ b o, I b = some o → I' b = some o) ∧ M' = M := by
  refine spec_of_V [] TrydEOK Tryd.func39 rfl rfl rfl ?_
  intro B h0
  refine CallOb.mk M [] _ (by simp) (IndexFunc_spec hr q hf) ?_
  rintro v I2 M2 - ⟨rfl, hI2, rfl⟩
  refine ⟨_, _, .refl, ?_, hI2, by simp⟩
  rw [← idxOf_ge q r.l 0]

def selfG (deb : List Int) (g : Gr) (i : Int) : Bool :=
  bif inR i g.n && decide (mayG deb g = 0) then ((callsL g).getD i.toNat []).any fun k => (fromL (callsL g) k.toNat).getD i.toNat false else false

theorem Self1_spec {I : GH} {x : Ls} (hx : x.ok I) (hn : x.n ≤ 1099511627776) (hL : ∀ l ∈ x.ll, valid x.ll.length l) {i : Nat} (hi : i < x.n) {k : Int} (hk : 0 ≤ k ∧ k < x.n) {b5 b3 : Nat} :
    Spec Tryd.prog 40 [.int .i64 k, ptr b5, ptr b3] I [⟨b5, .cells #[x.val] 43 (0, 0)⟩, ⟨b3, .cells #[.int .i64 i] 3 (0, 0)⟩]
      fun v I' M' => v = .bool ((fromL x.ll k.toNat).getD i false) ∧ (∀ b o, I b = some o → I' b = some o) ∧ M' = [⟨b5, .cells #[x.val] 43 (0, 0)⟩, ⟨b3, .cells #[.int .i64 i] 3 (0, 0)⟩] := by
  refine spec_of_V [] TrydEOK Tryd.func40 rfl rfl rfl ?_
  intro B h0
  have hxn := hx.n
  have hll : x.ll.length = x.n := by simp [Ls.ll, hxn]
  obtain ⟨k, rfl⟩ := Int.eq_ofNat_of_zero_le hk.1
  have hkl : k < x.n := by omega
  have hfl := from_len hL (i := k) (by omega)
  refine CodeOb.draw TrydEOK rfl rfl rfl ?_
  refine LoadOb.mk [x.val] ⟨rfl, _, _, _, .inr ⟨_, .head _, rfl, rfl⟩, rfl, rfl⟩ ?_
  refine LoadOb.mk [.int .i64 i] ⟨rfl, _, _, _, .inr ⟨_, .tail _ (.head _), rfl, rfl⟩, rfl, rfl⟩ ?_
  refine PCallOb.mk _ (from_spec hx hn hL hkl) ?_
  rintro v I2 M2 - ⟨hI2, r, rfl, hr, hrl, rfl⟩
  have hrn := hr.n
  have hil : i < r.n := by rw [← hrn, hrl, hfl]; omega
  obtain ⟨ad, had, hrd⟩ := hr.rs.one hil (by omega)
  refine IdxOb.mk ad i had rfl hil ?_
  refine LoadOb.mk _ (hrd _) ?_
  refine ⟨_, _, .refl, ?_, hI2, rfl⟩
  have e : (fromL x.ll k)[i]? = some (r.l[i]'(by omega)) := by rw [← hrl]; exact List.getElem?_eq_getElem (by omega)
  simp only [Int.toNat_natCast, Int.ofNat_eq_natCast, List.getD_eq_getElem?_getD, e, Option.getD_some]
  rfl

theorem Self_spec {I : GH} {deb : List Int} (hT : Tabs I deb) {g : Gr} (hg : g.ok I) (hn : g.n ≤ 1099511627776) (i : Int) : Spec Tryd.prog 15 [g.val, .int .i64 i] I [] fun v I' M' => v = .bool (selfG deb g i) ∧ (∀ b o, I b = some o → I' b = some o) ∧ M' = [] := by
  refine spec_of_V [3, 5] TrydEOK Tryd.func15 rfl rfl rfl ?_
  intro B h0
  have hgn := hg.n
  refine AllocOb.mk fun b3 hb3 hbM3 => ?_
  have rd3 : ∀ {I1 : GH} {M : List Blk}, (⟨b3, .cells #[.int .i64 i] 3 (0, 0)⟩ : Blk) ∈ M → Rd I1 M ⟨b3, 0, none⟩ 1 [.int .i64 i] := fun h => ⟨rfl, _, _, _, .inr ⟨_, h, rfl, rfl⟩, rfl, rfl⟩
  refine CallOb.mk [] [⟨b3, .cells #[.int .i64 i] 3 (0, 0)⟩] _ (.refl _) (calls_spec hT hg hn) ?_
  rintro v I1 M1 - ⟨hI1, rfl, ⟨hm, rfl⟩ | ⟨hm, x, rfl, hx, hxl⟩⟩
  · refine AllocOb.mk fun b5 hb5 hbM5 => ?_
    refine StoreOb.mk [] [⟨b3, .cells #[.int .i64 i] 3 (0, 0)⟩] _ _ rfl rfl (Nat.le_of_ble_eq_true rfl) rfl ?_
    refine GuardOb.mk (fun h => by cases h) (fun _ => ?_)
    refine ⟨_, _, .sub (List.nil_sublist _) .refl, ?_, hI1, rfl⟩
    have h3' : decide (mayG deb g = 0) = false := by simpa using hm
    rw [selfG, h3', Bool.and_false]
    rfl
  · have h3' : decide (mayG deb g = 0) = true := by simpa using hm
    have hxn : x.n = g.n := by
      have h1 := hx.n
      have h2 := congrArg List.length hxl
      simp only [Ls.ll, List.length_map, callsL] at h2
      omega
    have hv : ∀ l ∈ x.ll, valid x.ll.length l := by rw [hxl]; exact callsL_valid hgn
    refine AllocOb.mk fun b5 hb5 hbM5 => ?_
    refine StoreOb.mk [] [⟨b3, .cells #[.int .i64 i] 3 (0, 0)⟩] _ _ rfl rfl (Nat.le_of_ble_eq_true rfl) rfl ?_
    have rd5 : ∀ {I1 : GH} {M : List Blk}, (⟨b5, .cells #[x.val] 43 (0, 0)⟩ : Blk) ∈ M → Rd I1 M ⟨b5, 0, none⟩ 1 [x.val] := fun h => ⟨rfl, _, _, _, .inr ⟨_, h, rfl, rfl⟩, rfl, rfl⟩
    refine GuardOb.mk (fun _ => ?_) (fun h => by cases h)
    refine LoadOb.mk _ (rd3 (.tail _ (.head _))) ?_
    refine GuardOb.mk (fun h1 => ?_) (fun h1 => ?_)
    · refine LoadOb.mk _ (rd3 (.tail _ (.head _))) ?_
      refine LoadOb.mk [x.val] (rd5 (.head _)) ?_
      refine CondOb.mk (fun h2 => ?_) (fun h2 => ?_)
      · refine ⟨_, _, .sub (List.nil_sublist _) .refl, ?_, hI1, rfl⟩
        have h2' : decide ((g.n : Int) ≤ i) = true := by rw [← hxn]; exact h2
        rw [selfG, inR, h1, h2']
        rfl
      · have h2' : decide ((g.n : Int) ≤ i) = false := by rw [← hxn]; exact h2
        have hi0 : 0 ≤ i := by simpa using h1
        have hi1 : i < g.n := by simpa using h2'
        obtain ⟨j, rfl⟩ := Int.eq_ofNat_of_zero_le hi0
        have hjr : j < x.rows.length := by have := hx.n; omega
        obtain ⟨ar, har, hrr⟩ := hx.rs.one (j := j) (by omega) hjr
        have hrow := hx.rows _ (List.getElem_mem hjr)
        refine LoadOb.mk [x.val] (rd5 (.head _)) ?_
        refine LoadOb.mk _ (rd3 (.tail _ (.head _))) ?_
        refine IdxOb.mk ar j har rfl (by omega) ?_
        refine LoadOb.mk _ (hrr _) ?_
        have hLj : x.ll.getD j [] = x.rows[j].l := by simp [Ls.ll, List.getD_eq_getElem?_getD, hjr]
        have hll : x.ll.length = x.n := by simp [Ls.ll, hx.n]
        have hvj : valid x.ll.length x.rows[j].l := hv _ (by simp only [Ls.ll]; exact List.mem_map.2 ⟨_, List.getElem_mem hjr, rfl⟩)
        refine CallOb.mk [⟨b5, .cells #[x.val] 43 (0, 0)⟩, ⟨b3, .cells #[.int .i64 (j : Nat)] 3 (0, 0)⟩] [] _ (by simp; rfl) (ContainsFunc_spec hrow (f := 40) (cap := #[ptr b5, ptr b3]) (fun k => (fromL x.ll k.toNat).getD j false) (fun k hk I2 hI2 => Self1_spec (hx.mono hI2) (by omega) hv (i := j) (by omega) (by have := hvj k hk; omega))) ?_
        rintro v I2 M2 - ⟨rfl, hI2, rfl⟩
        refine ⟨_, _, .sub (List.nil_sublist _) .refl, ?_, fun b o h => hI2 _ _ (hI1 _ _ h), rfl⟩
        rw [selfG, inR, h1, h2', h3', ← hxl]
        simp only [Int.toNat_natCast, Int.ofNat_eq_natCast, hLj]
        rfl
    · refine ⟨_, _, .sub (List.nil_sublist _) .refl, ?_, hI1, rfl⟩
      rw [selfG, inR, h1]
      rfl
end Go.V
