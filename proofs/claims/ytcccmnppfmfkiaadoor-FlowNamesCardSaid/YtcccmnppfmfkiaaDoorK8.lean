/-
  Part 8 of what the proofs of this seat share: the executor, data in memory, walks.
-/
import Derived.Test.YtcccmnppfmfkiaaDoorK7
import Derived.Test.YtcccmnppfmfkiaaDoorK5

/-
  Walks: bonsailaw10.works.
-/
set_option linter.unusedVariables false
set_option linter.unusedSimpArgs false
namespace Go.V
open Go Go.Proofs

def lX : List Nd := [leafNd 2 (cB 120)]
def lA : List Nd := ofL (opNd 5 nB 0 0) [ofL (opNd 4 nB 0 0) [lX, [leafNd 3 (cB 97)]], [leafNd 0 nB]]
def lC : List Nd := ofL (opNd 8 nB 0 0) [[leafNd 3 (cB 99)]]
def lD : List Nd := ofL (opNd 5 nB 0 0) [[setNd 0 0 0 0], [leafNd 2 (cB 121)]]
def lMaybe : List Nd := ofL (opNd 6 nB 0 1) [lX]
theorem ofB_A1 : ofB (opNd 4 nB 0 0) [lX, [leafNd 3 (cB 97)]] = true := by kernel_rfl
theorem ofB_A : ofB (opNd 5 nB 0 0) [ofL (opNd 4 nB 0 0) [lX, [leafNd 3 (cB 97)]], [leafNd 0 nB]] = true := by kernel_rfl
theorem ofB_C : ofB (opNd 8 nB 0 0) [[leafNd 3 (cB 99)]] = true := by kernel_rfl
theorem ofB_D : ofB (opNd 5 nB 0 0) [[setNd 0 0 0 0], [leafNd 2 (cB 121)]] = true := by kernel_rfl
theorem ofB_M : ofB (opNd 6 nB 0 1) [lX] = true := by kernel_rfl
theorem ofB_M1 : ofB (opNd 6 nB 0 5) [lMaybe] = true := by kernel_rfl
theorem ofB_M2 : ofB (opNd 6 nB 2 2) [lX] = true := by kernel_rfl
theorem ofB_M3 : ofB (opNd 6 nB 0 0) [lX] = true := by kernel_rfl
theorem leafV_M1 : leafV (ofL (opNd 6 nB 0 5) [lMaybe]) = ⟨true, true, false⟩ := by kernel_rfl
theorem leafV_M2 : leafV (ofL (opNd 6 nB 2 2) [lX]) = ⟨false, true, true⟩ := by kernel_rfl
theorem leafV_M3 : leafV (ofL (opNd 6 nB 0 0) [lX]) = ⟨true, false, false⟩ := by kernel_rfl
def wDs : List Df := [⟨cB 97, trOf lA⟩, ⟨cB 98, trOf [leafNd 3 (cB 98)]⟩, ⟨cB 99, trOf lC⟩, ⟨cB 100, trOf lD⟩]
def wFl : List Fl := [⟨true, true, false⟩, ⟨false, false, false⟩, ⟨false, false, false⟩, ⟨false, true, true⟩]
theorem wMay : mayG debL ⟨wDs, none, 4, 0⟩ = 0 := by kernel_rfl
theorem wFlow : IsFlow wDs wFl := isFlow_of 3 (by kernel_rfl) (by kernel_rfl)

theorem tcs_nil {I : GH} : ∀ j (h : j < ([] : List Tr).length) (h' : j < ([] : List (List Nd)).length), TC I ([] : List Tr)[j] ([] : List (List Nd))[j] := fun j h => by simp at h
theorem tcs_cons {I : GH} {t : Tr} {l : List Nd} {ts : List Tr} {ls : List (List Nd)} (h : TC I t l) (hs : ∀ j (h : j < ts.length) (h' : j < ls.length), TC I ts[j] ls[j]) : ∀ j (h : j < (t :: ts).length) (h' : j < (l :: ls).length), TC I (t :: ts)[j] (l :: ls)[j] := fun j hj hj' => by
  cases j with
  | zero => exact h
  | succ j => exact hs j (by simpa using hj) (by simpa using hj')
/-- 'of', its kids in a row of the caller's own. -/
theorem of10_1 {I : GH} {k lo hi : Int} {s : ByteArray} (hk : 0 ≤ k ∧ k < 256) (hs : s.size ≤ 140737488355328) (h1 : i64ok lo) (h2 : i64ok hi) {t : Tr} {l : List Nd} (h : TC I t l) {b : Nat} (hc : ofB (opNd k s lo hi) [l] = true) :
    Spec Tryd.prog 26 [.agg #[.int .u8 k, .int .u64 0, .int .u64 0, .int .u64 0, .int .u64 0, .string s, .int .i64 lo, .int .i64 hi, .slice none 0 0], .slice (some ⟨b, 0, none⟩) 1 1] I [kidsBlk b [t]] fun v I' M' => (∀ b o, I b = some o → I' b = some o) ∧ M' = [kidsBlk b [t]] ∧ ∃ t' : Tr, v = t'.val ∧ TC I' t' (ofL (opNd k s lo hi) [l]) :=
  of10_spec (cc := 1) (opNd_ok hk hs h1 h2) (tcs_cons h tcs_nil) rfl (kidsBlk_rd (List.mem_singleton.2 rfl)) hc
theorem of10_2 {I : GH} {k lo hi : Int} {s : ByteArray} (hk : 0 ≤ k ∧ k < 256) (hs : s.size ≤ 140737488355328) (h1 : i64ok lo) (h2 : i64ok hi) {t u : Tr} {l m : List Nd} (h : TC I t l) (h' : TC I u m) {b : Nat} (hc : ofB (opNd k s lo hi) [l, m] = true) :
    Spec Tryd.prog 26 [.agg #[.int .u8 k, .int .u64 0, .int .u64 0, .int .u64 0, .int .u64 0, .string s, .int .i64 lo, .int .i64 hi, .slice none 0 0], .slice (some ⟨b, 0, none⟩) 2 2] I [kidsBlk b [t, u]] fun v I' M' => (∀ b o, I b = some o → I' b = some o) ∧ M' = [kidsBlk b [t, u]] ∧ ∃ t' : Tr, v = t'.val ∧ TC I' t' (ofL (opNd k s lo hi) [l, m]) :=
  of10_spec (cc := 2) (opNd_ok hk hs h1 h2) (tcs_cons h (tcs_cons h' tcs_nil)) rfl (kidsBlk_rd (List.mem_singleton.2 rfl)) hc
theorem k_ok {k : Nat} (h : k < 256) : 0 ≤ (k : Int) ∧ (k : Int) < 256 := ⟨by omega, by omega⟩
theorem keep1 {β γ : Type} {P Q : Prop} {M M' : List Blk} (h : P ∧ M' = M ∧ Q) : ∀ x ∈ M, x ∈ M' := fun x hx => by rw [h.2.1]; exact hx

set_option maxRecDepth 100000 in
set_option maxHeartbeats 16000000 in
theorem works10_spec {I : GH} (hT : Tabs I debL) : Spec Tryd.prog 23 [] I [] fun v I' M' => v = .bool true ∧ (∀ b o, I b = some o → I' b = some o) ∧ M' = [] := by
  refine spec_of_V [] TrydEOK Tryd.func23 rfl rfl rfl ?_
  intro B h0
  refine CallOb.mk [] [] _ (.refl _) (Text_spec (s := cB 120) (by decide)) ?_
  rintro v I1 M1 - ⟨hI1, tx, rfl, htx, nx, rx, rfl⟩
  have tcx : TC I1 tx lX := .leaf htx nx rx rfl
  refine CodeOb.drawC TrydEOK rfl rfl rfl (ι := Nat × Tr × GH) (fun x => { fl := [(1, .ref 1 0), (2, .val (ptr x.1))], cl := [(1, tx.cells)], gi := x.2.2, mi := [⟨x.1, .cells x.2.1.cells.toArray 25 (0, 0)⟩] }) (fun x => TC x.2.2 x.2.1 lA ∧ ∀ b o, I1 b = some o → x.2.2 b = some o) ?_ ?_
  · refine ⟨?_, ?_⟩
    · refine PCallOb.mk _ (Rule_spec (s := cB 97) (by decide)) ?_
      rintro v I2 M2 hI2 ⟨-, ta, rfl, hta, na, ra, rfl⟩
      have tca : TC I2 ta [leafNd 3 (cB 97)] := .leaf hta na ra rfl
      refine ⟨?_, ?_⟩
      · refine AllocOb.mk fun b4 hb4 hbM4 => ?_
        refine ⟨?_, ?_⟩
        · refine PCallOb.mkR [kidsBlk b4 [tx, ta]] [] _ (by first | exact .refl _ | exact .swap _ _ _ | exact (.cons _ (.swap _ _ _)) | exact (.trans (.swap _ _ _) (.cons _ (.swap _ _ _))) | exact (.trans (.cons _ (.swap _ _ _)) (.swap _ _ _))) (of10_2 (k := 4) (lo := 0) (hi := 0) (s := nB) (by decide) (by decide) i0 i0 (tcx.mono hI2) tca ofB_A1) (fun v I' M' h x hx => by rw [h.2.1]; exact hx) ?_
          rintro v I3 M3 hI3 ⟨-, rfl, ts, rfl, tcs⟩
          refine ⟨?_, ?_⟩
          · refine PCallOb.mk _ Empty_spec ?_
            rintro v I4 M4 hI4 ⟨-, te, rfl, hte, ne, re, rfl⟩
            have tce : TC I4 te [leafNd 0 nB] := .leaf hte ne re rfl
            refine ⟨?_, ?_⟩
            · refine AllocOb.mk fun b7 hb7 hbM7 => ?_
              refine ⟨?_, ?_⟩
              · refine CallOb.mk [kidsBlk b7 [ts, te]] [kidsBlk b4 [tx, ta]] _ (by first | exact .refl _ | exact .swap _ _ _ | exact (.cons _ (.swap _ _ _)) | exact (.trans (.swap _ _ _) (.cons _ (.swap _ _ _))) | exact (.trans (.cons _ (.swap _ _ _)) (.swap _ _ _))) (of10_2 (k := 5) (lo := 0) (hi := 0) (s := nB) (by decide) (by decide) i0 i0 (tcs.mono hI4) tce ofB_A) ?_
                rintro v I5 M5 - ⟨hI5, rfl, tA, rfl, tcA⟩
                refine AllocOb.mk fun b2 hb2 hbM2 => ?_
                refine StoreOb.to [] _ _ _ rfl rfl rfl rfl tA.cells rfl ?_
                exact ⟨(b2, tA, I5), ⟨tcA, fun b o h => hI5 _ _ (hI4 _ _ (hI3 _ _ (hI2 _ _ h)))⟩, .sub (.cons_cons _ (List.nil_sublist _)) .refl, .cons .refl (.cons .refl .nil), .cons rfl .nil⟩
              · refine AllocOb.mk fun b2 hb2 hbM2 => ?_
                refine PCallOb.mkR [kidsBlk b7 [ts, te]] [(⟨b2, .cells #[.slice none 0 0, .int .i64 0] 25 (0, 0)⟩ : Blk), kidsBlk b4 [tx, ta]] _ (by first | exact .refl _ | exact .swap _ _ _ | exact (.cons _ (.swap _ _ _)) | exact (.trans (.swap _ _ _) (.cons _ (.swap _ _ _))) | exact (.trans (.cons _ (.swap _ _ _)) (.swap _ _ _))) (of10_2 (k := 5) (lo := 0) (hi := 0) (s := nB) (by decide) (by decide) i0 i0 (tcs.mono hI4) tce ofB_A) (fun v I' M' h x hx => by rw [h.2.1]; exact hx) ?_
                rintro v I5 M5 hI5 ⟨-, rfl, tA, rfl, tcA⟩
                refine StoreOb.to [kidsBlk b7 [ts, te]] _ _ _ rfl rfl rfl rfl tA.cells rfl ?_
                exact ⟨(b2, tA, I5), ⟨tcA, fun b o h => hI5 _ _ (hI4 _ _ (hI3 _ _ (hI2 _ _ h)))⟩, .sub (.cons _ (.cons_cons _ (List.nil_sublist _))) .refl, .cons .refl (.cons .refl .nil), .cons rfl .nil⟩
            · refine AllocOb.mk fun b2 hb2 hbM2 => ?_
              refine AllocOb.mk fun b7 hb7 hbM7 => ?_
              refine PCallOb.mkR [kidsBlk b7 [ts, te]] [(⟨b2, .cells #[.slice none 0 0, .int .i64 0] 25 (0, 0)⟩ : Blk), kidsBlk b4 [tx, ta]] _ (by first | exact .refl _ | exact .swap _ _ _ | exact (.cons _ (.swap _ _ _)) | exact (.trans (.swap _ _ _) (.cons _ (.swap _ _ _))) | exact (.trans (.cons _ (.swap _ _ _)) (.swap _ _ _))) (of10_2 (k := 5) (lo := 0) (hi := 0) (s := nB) (by decide) (by decide) i0 i0 (tcs.mono hI4) tce ofB_A) (fun v I' M' h x hx => by rw [h.2.1]; exact hx) ?_
              rintro v I5 M5 hI5 ⟨-, rfl, tA, rfl, tcA⟩
              refine StoreOb.to [kidsBlk b7 [ts, te]] _ _ _ rfl rfl rfl rfl tA.cells rfl ?_
              exact ⟨(b2, tA, I5), ⟨tcA, fun b o h => hI5 _ _ (hI4 _ _ (hI3 _ _ (hI2 _ _ h)))⟩, .sub (.cons _ (.cons_cons _ (List.nil_sublist _))) .refl, .cons .refl (.cons .refl .nil), .cons rfl .nil⟩
          · refine AllocOb.mk fun b2 hb2 hbM2 => ?_
            refine PCallOb.mk _ Empty_spec ?_
            rintro v I4 M4 hI4 ⟨-, te, rfl, hte, ne, re, rfl⟩
            have tce : TC I4 te [leafNd 0 nB] := .leaf hte ne re rfl
            refine AllocOb.mk fun b7 hb7 hbM7 => ?_
            refine PCallOb.mkR [kidsBlk b7 [ts, te]] [(⟨b2, .cells #[.slice none 0 0, .int .i64 0] 25 (0, 0)⟩ : Blk), kidsBlk b4 [tx, ta]] _ (by first | exact .refl _ | exact .swap _ _ _ | exact (.cons _ (.swap _ _ _)) | exact (.trans (.swap _ _ _) (.cons _ (.swap _ _ _))) | exact (.trans (.cons _ (.swap _ _ _)) (.swap _ _ _))) (of10_2 (k := 5) (lo := 0) (hi := 0) (s := nB) (by decide) (by decide) i0 i0 (tcs.mono hI4) tce ofB_A) (fun v I' M' h x hx => by rw [h.2.1]; exact hx) ?_
            rintro v I5 M5 hI5 ⟨-, rfl, tA, rfl, tcA⟩
            refine StoreOb.to [kidsBlk b7 [ts, te]] _ _ _ rfl rfl rfl rfl tA.cells rfl ?_
            exact ⟨(b2, tA, I5), ⟨tcA, fun b o h => hI5 _ _ (hI4 _ _ (hI3 _ _ (hI2 _ _ h)))⟩, .sub (.cons _ (.cons_cons _ (List.nil_sublist _))) .refl, .cons .refl (.cons .refl .nil), .cons rfl .nil⟩
        · refine AllocOb.mk fun b2 hb2 hbM2 => ?_
          refine PCallOb.mkR [kidsBlk b4 [tx, ta]] [(⟨b2, .cells #[.slice none 0 0, .int .i64 0] 25 (0, 0)⟩ : Blk)] _ (by first | exact .refl _ | exact .swap _ _ _ | exact (.cons _ (.swap _ _ _)) | exact (.trans (.swap _ _ _) (.cons _ (.swap _ _ _))) | exact (.trans (.cons _ (.swap _ _ _)) (.swap _ _ _))) (of10_2 (k := 4) (lo := 0) (hi := 0) (s := nB) (by decide) (by decide) i0 i0 (tcx.mono hI2) tca ofB_A1) (fun v I' M' h x hx => by rw [h.2.1]; exact hx) ?_
          rintro v I3 M3 hI3 ⟨-, rfl, ts, rfl, tcs⟩
          refine PCallOb.mk _ Empty_spec ?_
          rintro v I4 M4 hI4 ⟨-, te, rfl, hte, ne, re, rfl⟩
          have tce : TC I4 te [leafNd 0 nB] := .leaf hte ne re rfl
          refine AllocOb.mk fun b7 hb7 hbM7 => ?_
          refine PCallOb.mkR [kidsBlk b7 [ts, te]] [kidsBlk b4 [tx, ta], (⟨b2, .cells #[.slice none 0 0, .int .i64 0] 25 (0, 0)⟩ : Blk)] _ (by first | exact .refl _ | exact .swap _ _ _ | exact (.cons _ (.swap _ _ _)) | exact (.trans (.swap _ _ _) (.cons _ (.swap _ _ _))) | exact (.trans (.cons _ (.swap _ _ _)) (.swap _ _ _))) (of10_2 (k := 5) (lo := 0) (hi := 0) (s := nB) (by decide) (by decide) i0 i0 (tcs.mono hI4) tce ofB_A) (fun v I' M' h x hx => by rw [h.2.1]; exact hx) ?_
          rintro v I5 M5 hI5 ⟨-, rfl, tA, rfl, tcA⟩
          refine StoreOb.to [kidsBlk b7 [ts, te], kidsBlk b4 [tx, ta]] _ _ _ rfl rfl rfl rfl tA.cells rfl ?_
          exact ⟨(b2, tA, I5), ⟨tcA, fun b o h => hI5 _ _ (hI4 _ _ (hI3 _ _ (hI2 _ _ h)))⟩, .sub (.cons _ (.cons _ (.cons_cons _ (List.nil_sublist _)))) .refl, .cons .refl (.cons .refl .nil), .cons rfl .nil⟩
      · refine AllocOb.mk fun b2 hb2 hbM2 => ?_
        refine AllocOb.mk fun b4 hb4 hbM4 => ?_
        refine PCallOb.mkR [kidsBlk b4 [tx, ta]] [(⟨b2, .cells #[.slice none 0 0, .int .i64 0] 25 (0, 0)⟩ : Blk)] _ (by first | exact .refl _ | exact .swap _ _ _ | exact (.cons _ (.swap _ _ _)) | exact (.trans (.swap _ _ _) (.cons _ (.swap _ _ _))) | exact (.trans (.cons _ (.swap _ _ _)) (.swap _ _ _))) (of10_2 (k := 4) (lo := 0) (hi := 0) (s := nB) (by decide) (by decide) i0 i0 (tcx.mono hI2) tca ofB_A1) (fun v I' M' h x hx => by rw [h.2.1]; exact hx) ?_
        rintro v I3 M3 hI3 ⟨-, rfl, ts, rfl, tcs⟩
        refine PCallOb.mk _ Empty_spec ?_
        rintro v I4 M4 hI4 ⟨-, te, rfl, hte, ne, re, rfl⟩
        have tce : TC I4 te [leafNd 0 nB] := .leaf hte ne re rfl
        refine AllocOb.mk fun b7 hb7 hbM7 => ?_
        refine PCallOb.mkR [kidsBlk b7 [ts, te]] [kidsBlk b4 [tx, ta], (⟨b2, .cells #[.slice none 0 0, .int .i64 0] 25 (0, 0)⟩ : Blk)] _ (by first | exact .refl _ | exact .swap _ _ _ | exact (.cons _ (.swap _ _ _)) | exact (.trans (.swap _ _ _) (.cons _ (.swap _ _ _))) | exact (.trans (.cons _ (.swap _ _ _)) (.swap _ _ _))) (of10_2 (k := 5) (lo := 0) (hi := 0) (s := nB) (by decide) (by decide) i0 i0 (tcs.mono hI4) tce ofB_A) (fun v I' M' h x hx => by rw [h.2.1]; exact hx) ?_
        rintro v I5 M5 hI5 ⟨-, rfl, tA, rfl, tcA⟩
        refine StoreOb.to [kidsBlk b7 [ts, te], kidsBlk b4 [tx, ta]] _ _ _ rfl rfl rfl rfl tA.cells rfl ?_
        exact ⟨(b2, tA, I5), ⟨tcA, fun b o h => hI5 _ _ (hI4 _ _ (hI3 _ _ (hI2 _ _ h)))⟩, .sub (.cons _ (.cons _ (.cons_cons _ (List.nil_sublist _)))) .refl, .cons .refl (.cons .refl .nil), .cons rfl .nil⟩
    · refine AllocOb.mk fun b2 hb2 hbM2 => ?_
      refine PCallOb.mk _ (Rule_spec (s := cB 97) (by decide)) ?_
      rintro v I2 M2 hI2 ⟨-, ta, rfl, hta, na, ra, rfl⟩
      have tca : TC I2 ta [leafNd 3 (cB 97)] := .leaf hta na ra rfl
      refine AllocOb.mk fun b4 hb4 hbM4 => ?_
      refine PCallOb.mkR [kidsBlk b4 [tx, ta]] [(⟨b2, .cells #[.slice none 0 0, .int .i64 0] 25 (0, 0)⟩ : Blk)] _ (by first | exact .refl _ | exact .swap _ _ _ | exact (.cons _ (.swap _ _ _)) | exact (.trans (.swap _ _ _) (.cons _ (.swap _ _ _))) | exact (.trans (.cons _ (.swap _ _ _)) (.swap _ _ _))) (of10_2 (k := 4) (lo := 0) (hi := 0) (s := nB) (by decide) (by decide) i0 i0 (tcx.mono hI2) tca ofB_A1) (fun v I' M' h x hx => by rw [h.2.1]; exact hx) ?_
      rintro v I3 M3 hI3 ⟨-, rfl, ts, rfl, tcs⟩
      refine PCallOb.mk _ Empty_spec ?_
      rintro v I4 M4 hI4 ⟨-, te, rfl, hte, ne, re, rfl⟩
      have tce : TC I4 te [leafNd 0 nB] := .leaf hte ne re rfl
      refine AllocOb.mk fun b7 hb7 hbM7 => ?_
      refine PCallOb.mkR [kidsBlk b7 [ts, te]] [kidsBlk b4 [tx, ta], (⟨b2, .cells #[.slice none 0 0, .int .i64 0] 25 (0, 0)⟩ : Blk)] _ (by first | exact .refl _ | exact .swap _ _ _ | exact (.cons _ (.swap _ _ _)) | exact (.trans (.swap _ _ _) (.cons _ (.swap _ _ _))) | exact (.trans (.cons _ (.swap _ _ _)) (.swap _ _ _))) (of10_2 (k := 5) (lo := 0) (hi := 0) (s := nB) (by decide) (by decide) i0 i0 (tcs.mono hI4) tce ofB_A) (fun v I' M' h x hx => by rw [h.2.1]; exact hx) ?_
      rintro v I5 M5 hI5 ⟨-, rfl, tA, rfl, tcA⟩
      refine StoreOb.to [kidsBlk b7 [ts, te], kidsBlk b4 [tx, ta]] _ _ _ rfl rfl rfl rfl tA.cells rfl ?_
      exact ⟨(b2, tA, I5), ⟨tcA, fun b o h => hI5 _ _ (hI4 _ _ (hI3 _ _ (hI2 _ _ h)))⟩, .sub (.cons _ (.cons _ (.cons_cons _ (List.nil_sublist _)))) .refl, .cons .refl (.cons .refl .nil), .cons rfl .nil⟩
  rintro ⟨b2, tA, J⟩ ⟨tcA, hJ⟩
  simp only at tcA hJ
  have tcx := tcx.mono hJ
  have hI1J : ∀ b o, I b = some o → J b = some o := fun b o h => hJ _ _ (hI1 _ _ h)
  refine CallOb.mk [] _ _ (.refl _) (TSet_spec u0 u0 u0 u0) ?_
  rintro v J1 M1 - ⟨hJ1, t1, rfl, ht1, n1, r1, rfl⟩
  have tc1 : TC J1 t1 [setNd 0 0 0 0] := .leaf ht1 n1 r1 rfl
  refine CallOb.mk [] _ _ (.refl _) (Text_spec (s := cB 121) (by decide)) ?_
  rintro v J2 M2 - ⟨hJ2, t2, rfl, ht2, n2, r2, rfl⟩
  have tc2 : TC J2 t2 [leafNd 2 (cB 121)] := .leaf ht2 n2 r2 rfl
  refine AllocOb.mk fun b4 hb4 hbM4 => ?_
  refine CallOb.mk [kidsBlk b4 [t1, t2]] _ _ (.refl _) (of10_2 (k := 5) (lo := 0) (hi := 0) (s := nB) (by decide) (by decide) i0 i0 (tc1.mono hJ2) tc2 ofB_D) ?_
  rintro v J3 M3 - ⟨hJ3, rfl, tD, rfl, tcD⟩
  have hJ03 : ∀ b o, J b = some o → J3 b = some o := fun b o h => hJ3 _ _ (hJ2 _ _ (hJ1 _ _ h))
  -- the grammar
  refine CodeOb.draw TrydEOK rfl rfl rfl ?_
  refine LoadOb.mk tA.cells ⟨rfl, _, _, _, .inr ⟨⟨b2, .cells tA.cells.toArray 25 (0, 0)⟩, by simp, rfl, rfl⟩, rfl, rfl⟩ ?_
  refine PCallOb.mk _ (Rule_spec (s := cB 98) (by decide)) ?_
  rintro v J4 M4 hJ4 ⟨-, t4, rfl, ht4, n4, r4, rfl⟩
  have tc4 : TC J4 t4 [leafNd 3 (cB 98)] := .leaf ht4 n4 r4 rfl
  refine PCallOb.mk _ (Rule_spec (s := cB 99) (by decide)) ?_
  rintro v J5 M5 hJ5 ⟨-, t5, rfl, ht5, n5, r5, rfl⟩
  have tc5 : TC J5 t5 [leafNd 3 (cB 99)] := .leaf ht5 n5 r5 rfl
  refine AllocOb.mk fun b6 hb6 hbM6 => ?_
  refine PCallOb.mkR [kidsBlk b6 [t5]] [kidsBlk b4 [t1, t2], ⟨b2, .cells tA.cells.toArray 25 (0, 0)⟩] _ (.refl _) (of10_1 (k := 8) (lo := 0) (hi := 0) (s := nB) (by decide) (by decide) i0 i0 tc5 ofB_C) (fun v I' M' h x hx => by rw [h.2.1]; exact hx) ?_
  rintro v J6 M6 hJ6 ⟨-, rfl, tC, rfl, tcC⟩
  refine AllocOb.mk fun b7 hb7 hbM7 => ?_
  refine CallOb.mk [] _ _ (.refl _) (grammar10_spec (M := [])) ?_
  rintro v J7 M7 - ⟨rfl, rfl, rfl⟩
  have tA6 := ((tcA.mono hJ03).mono hJ4).mono hJ5 |>.mono hJ6
  have tB6 := (tc4.mono hJ5).mono hJ6
  have tD6 := ((tcD.mono hJ4).mono hJ5).mono hJ6
  have hds : ∀ d ∈ ([⟨cB 97, tA⟩, ⟨cB 98, t4⟩, ⟨cB 99, tC⟩, ⟨cB 100, tD⟩] : List Df), d.ok J7 := by
    simp only [List.mem_cons, List.not_mem_nil, or_false]
    rintro d (rfl | rfl | rfl | rfl)
    · exact ⟨(by decide : (cB 97).size ≤ 140737488355328), tA6.ok⟩
    · exact ⟨(by decide : (cB 98).size ≤ 140737488355328), tB6.ok⟩
    · exact ⟨(by decide : (cB 99).size ≤ 140737488355328), tcC.ok⟩
    · exact ⟨(by decide : (cB 100).size ≤ 140737488355328), tD6.ok⟩
  have hct : ([⟨cB 97, tA⟩, ⟨cB 98, t4⟩, ⟨cB 99, tC⟩, ⟨cB 100, tD⟩] : List Df).map Df.ct = wDs := by
    simp only [List.map_cons, List.map_nil, Df.ct, tA6.tr, tB6.tr, tcC.tr, tD6.tr]
    rfl
  refine CallOb.fa fun hfa => ?_
  have hb7' := hfa.d (defsBlk b7 [⟨cB 97, tA⟩, ⟨cB 98, t4⟩, ⟨cB 99, tC⟩, ⟨cB 100, tD⟩]) (.head _)
  have hins := ins_le (o := (defsBlk b7 [⟨cB 97, tA⟩, ⟨cB 98, t4⟩, ⟨cB 99, tC⟩, ⟨cB 100, tD⟩]).obj) hb7'
  have hg := defsBlk_gr (n := 4) rfl (by decide) hb7' hds
  have hT7 : Tabs J7 debL := hT.mono fun b o h => hJ6 _ _ (hJ5 _ _ (hJ4 _ _ (hJ03 _ _ (hI1J _ _ h))))
  have hsp := FOf_spec (hT7.mono hins) hg
  refine CallOb.mkW _ [] [kidsBlk b6 [t5], kidsBlk b4 [t1, t2], ⟨b2, .cells tA.cells.toArray 25 (0, 0)⟩] _ (.prom rfl (by simp) .refl) hsp ?_
  rintro v J8 M8 hJ8 - ⟨-, ⟨hm, rfl, rfl⟩ | ⟨hm, bF, fl, rfl, rfl, hfl⟩⟩
  · exfalso
    rw [← mayG_ct] at hm
    refine hm ?_
    show mayG debL ⟨([⟨cB 97, tA⟩, ⟨cB 98, t4⟩, ⟨cB 99, tC⟩, ⟨cB 100, tD⟩] : List Df).map Df.ct, none, 4, 0⟩ = 0
    rw [hct]
    exact wMay
  have hflw : fl = wFl := by
    have h1 := isFlow_ct hfl
    simp only at h1
    rw [hct] at h1
    exact h1.unique wFlow
  subst hflw
  have hIJ8 : ∀ b o, I b = some o → J8 b = some o := fun b o h => hJ8 _ _ (hins _ _ (hJ6 _ _ (hJ5 _ _ (hJ4 _ _ (hJ03 _ _ (hI1J _ _ h))))))
  have tcx8 : TC J8 tx lX := tcx.mono fun b o h => hJ8 _ _ (hins _ _ (hJ6 _ _ (hJ5 _ _ (hJ4 _ _ (hJ03 _ _ h)))))
  have frd : ∀ {M : List Blk} (j : Nat) (hj : j < wFl.length), flRow bF wFl ∈ M → Rd J8 M ((⟨bF, 0, none⟩ : Addr).add (j * 3)) 3 wFl[j].cells := fun j hj hM => flRow_rd hM hj
  refine GuardOb.mk (fun _ => ?_) (fun h => by simp at h)
  refine GuardOb.mk (fun _ => ?_) (fun h => by simp at h)
  refine IdxOb.mk ⟨bF, 0, none⟩ 0 rfl rfl (show (0 : Nat) < 4 by decide) ?_
  refine LoadOb.mk _ (frd 0 (by decide) (.head _)) ?_
  refine BinOb.neF (p := ⟨true, true, false⟩) (q := ⟨true, true, false⟩) ?_
  refine GuardOb.mk (fun _ => ?_) (fun h => by cases h)
  refine IdxOb.mk ⟨bF, 0, none⟩ 1 rfl rfl (show (1 : Nat) < 4 by decide) ?_
  refine LoadOb.mk _ (frd 1 (by decide) (.head _)) ?_
  refine BinOb.neF (p := ⟨false, false, false⟩) (q := ⟨false, false, false⟩) ?_
  refine GuardOb.mk (fun _ => ?_) (fun h => by cases h)
  refine IdxOb.mk ⟨bF, 0, none⟩ 2 rfl rfl (show (2 : Nat) < 4 by decide) ?_
  refine LoadOb.mk _ (frd 2 (by decide) (.head _)) ?_
  refine BinOb.neF (p := ⟨false, false, false⟩) (q := ⟨false, false, false⟩) ?_
  refine GuardOb.mk (fun _ => ?_) (fun h => by cases h)
  refine IdxOb.mk ⟨bF, 0, none⟩ 3 rfl rfl (show (3 : Nat) < 4 by decide) ?_
  refine LoadOb.mk _ (frd 3 (by decide) (.head _)) ?_
  refine BinOb.neF (p := ⟨false, true, true⟩) (q := ⟨false, true, true⟩) ?_
  refine CondOb.mk (fun h => by cases h) (fun _ => ?_)
  refine AllocOb.mk fun b10 hb10 hbM10 => ?_
  refine CallOb.mk [kidsBlk b10 [tx]] _ _ (.refl _) (of10_1 (k := 6) (lo := 0) (hi := 1) (s := nB) (by decide) (by decide) i0 ⟨by decide, by decide⟩ tcx8 ofB_M) ?_
  rintro v J9 M9 - ⟨hJ9, rfl, tM, rfl, tcM⟩
  replace tcM : TC J9 tM lMaybe := tcM
  refine AllocOb.mk fun b11 hb11 hbM11 => ?_
  refine CallOb.mk [kidsBlk b11 [tM]] _ _ (.refl _) (of10_1 (k := 6) (lo := 0) (hi := 5) (s := nB) (by decide) (by decide) i0 ⟨by decide, by decide⟩ tcM ofB_M1) ?_
  rintro v J10 M10 - ⟨hJ10, rfl, tM1, rfl, tcM1⟩
  have hT10 : Tabs J10 debL := ((hT.mono hIJ8).mono hJ9).mono hJ10
  have hl1 := leaf10_spec hT10 tcM1
  rw [leafV_M1] at hl1
  refine CallOb.mk [] _ _ (.refl _) hl1 ?_
  rintro v J11 M11 - ⟨hJ11, rfl, rfl⟩
  refine BinOb.eqF (p := ⟨true, true, false⟩) (q := ⟨true, true, false⟩) ?_
  refine GuardOb.mk (fun _ => ?_) (fun h => by cases h)
  refine AllocOb.mk fun b12 hb12 hbM12 => ?_
  have tcx11 : TC J11 tx lX := tcx8.mono fun b o h => hJ11 _ _ (hJ10 _ _ (hJ9 _ _ h))
  refine CallOb.mk [kidsBlk b12 [tx]] _ _ (.refl _) (of10_1 (k := 6) (lo := 2) (hi := 2) (s := nB) (by decide) (by decide) ⟨by decide, by decide⟩ ⟨by decide, by decide⟩ tcx11 ofB_M2) ?_
  rintro v J12 M12 - ⟨hJ12, rfl, tM2, rfl, tcM2⟩
  have hl2 := leaf10_spec ((hT10.mono hJ11).mono hJ12) tcM2
  rw [leafV_M2] at hl2
  refine CallOb.mk [] _ _ (.refl _) hl2 ?_
  rintro v J13 M13 - ⟨hJ13, rfl, rfl⟩
  refine BinOb.eqF (p := ⟨false, true, true⟩) (q := ⟨false, true, true⟩) ?_
  refine GuardOb.mk (fun _ => ?_) (fun h => by cases h)
  refine AllocOb.mk fun b13 hb13 hbM13 => ?_
  refine CallOb.mk [kidsBlk b13 [tx]] _ _ (.refl _) (of10_1 (k := 6) (lo := 0) (hi := 0) (s := nB) (by decide) (by decide) i0 i0 ((tcx11.mono hJ12).mono hJ13) ofB_M3) ?_
  rintro v J14 M14 - ⟨hJ14, rfl, tM3, rfl, tcM3⟩
  have hl3 := leaf10_spec ((((hT10.mono hJ11).mono hJ12).mono hJ13).mono hJ14) tcM3
  rw [leafV_M3] at hl3
  refine CallOb.mk [] _ _ (.refl _) hl3 ?_
  rintro v J15 M15 - ⟨hJ15, rfl, rfl⟩
  refine BinOb.eqF (p := ⟨true, false, false⟩) (q := ⟨true, false, false⟩) ?_
  exact ⟨_, _, .sub (List.nil_sublist _) .refl, rfl, fun b o h => hJ15 _ _ (hJ14 _ _ (hJ13 _ _ (hJ12 _ _ (hJ11 _ _ (hJ10 _ _ (hJ9 _ _ (hIJ8 _ _ h))))))), rfl⟩
end Go.V

/-
  Walks: bonsailaw10.long.
-/
set_option linter.unusedVariables false
set_option linter.unusedSimpArgs false
namespace Go.V
open Go Go.Proofs

theorem OS.rowAt {α : Type} (f : α → List Value) (k : Nat) (hf : ∀ x, (f x).length = k) {I : GH} {M : List Blk} {os : OS} {l : List α} {e : Nat} (h : os.ok k (l.flatMap f)) (hk : 0 < k) (hM : ∀ x ∈ os.blk e, x ∈ M) :
    l.length = os.n ∧ ∀ j (hj : j < l.length), ∃ ad, (os.a.map fun g => (⟨g, 0, none⟩ : Addr)) = some ad ∧ Rd I M (ad.add (j * k)) k (f l[j]) := by
  have hl := h.len
  rw [flat_len f k hf] at hl
  have hl' := Nat.eq_of_mul_eq_mul_right hk hl
  refine ⟨hl', fun j hj => ?_⟩
  obtain ⟨a, n, c, cur⟩ := os
  simp only at hl hl'
  subst hl'
  cases a with
  | none => have := (h.nil rfl).1; simp only at this; omega
  | some g =>
    obtain ⟨h1, h2, h3, h4⟩ := h.cap g rfl
    simp only at h1 h2 h4
    refine ⟨⟨g, 0, none⟩, rfl, ?_⟩
    have hm : (⟨g, .cells cur.toArray e (0, 0)⟩ : Blk) ∈ M := hM _ (by simp [OS.blk])
    have hjk : j * k + k ≤ l.length * k := by
      have : (j + 1) * k ≤ l.length * k := Nat.mul_le_mul_right _ hj
      rwa [Nat.add_mul, Nat.one_mul] at this
    have hck : l.length * k ≤ c * k := Nat.mul_le_mul_right _ h2
    have hr := blk_rd (I := I) (cs := cur) (k := j * k) (n := k) hm (by omega)
    have e1 : (cur.drop (j * k)).take k = ((cur.take (l.length * k)).drop (j * k)).take k := by
      rw [List.drop_take, List.take_take]
      congr 1
      omega
    rw [e1, h4, flat_at f k hf l j hj] at hr
    exact hr

structure TrSmall (t : Tr) : Prop where
  n : t.n < 2500
  ns : ∀ nd ∈ t.ns, NdSmall nd
theorem TrW.ok {I : GH} {t : Tr} (h : TrW I t) (hs : TrSmall t) : t.ok I :=
  ⟨h.rs.big (by have := hs.n; omega), fun nd hnd => (h.ns nd hnd).ok (hs.ns nd hnd), h.root⟩
theorem TrW.mono {I I' : GH} {t : Tr} (h : TrW I t) (hI : ∀ b o, I b = some o → I' b = some o) : TrW I' t := ⟨h.rs.mono hI, fun nd hnd => (h.ns nd hnd).mono hI, h.root⟩

def bodies (g : Gr) (L0 : List Tr) (i : Nat) : List Tr := L0 ++ (g.ds.take i).map Df.t
theorem bodies_len {g : Gr} {L0 : List Tr} {i : Nat} (hi : i ≤ g.ds.length) : (bodies g L0 i).length = L0.length + i := by
  simp [bodies]
  omega
structure L1 (g : Gr) (L0 : List Tr) (x : Nat × Nat × OS) : Prop where
  i : x.2.1 ≤ g.n
  n : x.1 ≤ 6000
  five : 5 * x.2.1 ≤ x.1
  os : x.2.2.ok 2 ((bodies g L0 x.2.1).flatMap Tr.cells)
  small : x.1 < 2500 → ∀ j (h : j < g.ds.length), j < x.2.1 → g.ds[j].name.size < 2500
structure L2 (L : List Tr) (n0 : Nat) (x : Nat × Nat) : Prop where
  i : x.2 ≤ L.length
  n : x.1 ≤ 6000
  ge : n0 ≤ x.1
  small : x.1 < 2500 → x.2 ≤ x.1 ∧ ∀ j (h : j < L.length), j < x.2 → TrSmall L[j]
structure L3 (L : List Tr) (t : Tr) (n0 i : Nat) (x : Nat × Nat) : Prop where
  k : x.2 ≤ t.n
  n : x.1 ≤ 6000
  ge : n0 ≤ x.1
  small : x.1 < 2500 → i + 1 ≤ x.1 ∧ x.2 ≤ x.1 ∧ (∀ j (h : j < L.length), j < i → TrSmall L[j]) ∧ ∀ j (h : j < t.ns.length), j < x.2 → NdSmall t.ns[j]

set_option maxRecDepth 100000 in
set_option maxHeartbeats 4000000 in
theorem long10_spec {I : GH} {g : Gr} (hg : GrW I g) {os0 : OS} {L0 : List Tr} (hos0 : os0.ok 2 (L0.flatMap Tr.cells)) (hL0 : ∀ t ∈ L0, TrW I t) (hl0 : L0.length ≤ 2500) :
    Spec Tryd.prog 34 [g.val, os0.val] I (os0.blk 25) fun v I' M' => (∃ r, v = .bool r ∧ (r = false → GrSmall g ∧ ∀ t ∈ L0, TrSmall t)) ∧ I' = I ∧ M' = [] := by
  refine spec_of_V [] TrydEOK Tryd.func34 rfl rfl rfl ?_
  intro B h0
  have hgn := hg.n
  refine LoopOb.inv (ι := Nat × Nat × OS) (fun x => { fl := [(1, .val x.2.2.val), (2, .ref 2 0), (5, .val (.int .i64 x.1)), (6, .val (.int .i64 x.2.1))], cl := [(2, [.slice g.a g.n g.c])], gi := I, mi := x.2.2.blk 25 }) (L1 g L0) (fun x => g.n - x.2.1) ?_ ?_
  · exact ⟨(0, 0, os0), ⟨Nat.zero_le _, Nat.zero_le _, Nat.zero_le _, by simpa [bodies] using hos0, fun _ j _ h => by simp at h⟩, .refl, .cons .refl (.cons .refl (.cons .refl (.cons .refl .nil))), .cons rfl .nil⟩
  rintro ⟨n, i, os⟩ ⟨hi, hn, h5, hos, hsm⟩
  simp only at hi hn h5 hos hsm
  have hosn : os.n = L0.length + i := by
    have := (OS.rowAt Tr.cells 2 (fun _ => rfl) (I := I) (e := 0) hos (by decide) (fun x h => h)).1
    rw [bodies_len (by omega)] at this
    exact this.symm
  refine GuardOb.mk (fun h => CondOb.mk (fun h2 => ?body) (fun h2 => ?e1)) (fun h => ?e2)
  case body =>
    have hlt : i < g.n := by simpa using h
    have hn2 : n < 2500 := by have := of_decide_eq_true h2; omega
    have hds := hsm hn2
    have hlt' : i < g.ds.length := by omega
    obtain ⟨ad, had, hrd⟩ := hg.rs.row Df.cells_len hlt hlt'
    have hd := hg.ds _ (List.getElem_mem hlt')
    have hnm := hd.name
    have r1 : ∀ M, Rd I M ((ad.add (i * 3)).add 0) 1 [.string g.ds[i].name] := fun M => (hrd M).part (k := 0) (m := 1) (by decide)
    have r2 : ∀ M, Rd I M ((ad.add (i * 3)).add 1) 2 g.ds[i].t.cells := fun M => (hrd M).part (k := 1) (m := 2) (by decide)
    have hbd : bodies g L0 (i + 1) = bodies g L0 i ++ [g.ds[i].t] := by
      simp only [bodies]
      rw [List.take_succ_eq_append_getElem hlt', List.map_append, List.append_assoc]
      rfl
    generalize hdd : g.ds[i] = d at hd r1 r2 hnm hbd
    refine ArithOb.mk ((n + 5 : Nat) : Int) (wr_eq (by omega) (by omega)) ?_
    refine IdxOb.mk ad i had rfl hlt ?_
    refine LoadOb.mk _ (r1 _) ?_
    refine ArithOb.mk ((n + 5 + min 2500 d.name.size : Nat) : Int) (wr_eq (by omega) (by omega)) ?_
    refine IdxOb.mk ad i had rfl hlt ?_
    refine LoadOb.mk _ (r2 _) ?_
    refine AllocOb.mk fun b hb hbM => ?_
    refine OtherOb.append TrydEOK rfl (by simp) (e := 25) rfl rfl rfl os hos rfl (m := 1) rfl (news := d.t.cells) (by decide) (blk_rd (b := b) (cs := d.t.cells) (k := 0) (n := 2) (T := 25) (.head _) (Nat.le_of_ble_eq_true rfl)) rfl (Mr := [⟨b, .cells d.t.cells.toArray 25 (0, 0)⟩]) (List.perm_append_comm (l₁ := [_])) (by simp only [maxLen]; omega) (by show (os.n + 1) * 32 ≤ _; omega) ?_
    intro g1 c1 cur1 q1 q2 q3 q4
    refine ArithOb.mk _ (next_wr (i := i) (by omega)) ?_
    refine ⟨(_, i + 1, ⟨some g1, os.n + 1, c1, cur1⟩), ⟨⟨by simp only; omega, by simp only; omega, by simp only; omega, ?_, fun h j hj hj2 => ?_⟩, by simp only; omega⟩, .sub (.cons_cons _ (List.nil_sublist _)) .refl, .cons .refl (.cons .refl (.cons .refl (.cons .refl .nil))), .cons rfl .nil⟩
    · simp only
      rw [hbd, List.flatMap_append]
      have := appm_ok hos (m := 1) (g := g1) (ys := d.t.cells) rfl q1 q2 q3 q4
      simpa using this
    · simp only at h hj2
      by_cases e : j = i
      · subst e
        rw [hdd]
        omega
      · exact hds j hj (by omega)
  case' e1 => have hx : n < 2500 → i = g.n := fun hh => by have := of_decide_eq_false h2; omega
  case' e2 => have hx : n < 2500 → i = g.n := fun hh => by have : ¬ (i : Int) < (g.n : Int) := of_decide_eq_false h; omega
  all_goals
    clear h
    have hrow := OS.rowAt Tr.cells 2 (fun _ => rfl) (I := I) (M := os.blk 25) (e := 25) hos (by decide) (fun x h => h)
    have hLW : ∀ t ∈ bodies g L0 i, TrW I t := fun t ht => by
      rcases List.mem_append.1 ht with ht | ht
      · exact hL0 t ht
      · obtain ⟨d, hd, rfl⟩ := List.mem_map.1 ht
        exact (hg.ds d (List.mem_of_mem_take hd)).t
    have fin : ∀ m, n ≤ m → (m < 2500 → ∀ t ∈ bodies g L0 i, TrSmall t) → ∀ c, c = decide ((2500 : Int) ≤ (m : Int)) → (c = false → GrSmall g ∧ ∀ t ∈ L0, TrSmall t) := by
      intro m hnm h1 c hc hcf
      rw [hc] at hcf
      have hm : m < 2500 := by have := of_decide_eq_false hcf; omega
      have h2 := h1 hm
      have h3 := hx (by omega)
      have h4 := hsm (by omega)
      have h6 : ∀ d ∈ g.ds, DfSmall d := fun d hd => by
        obtain ⟨j, hj, rfl⟩ := List.getElem_of_mem hd
        have := h2 (g.ds[j].t) (List.mem_append_right _ (List.mem_map.2 ⟨g.ds[j], by rw [List.take_of_length_le (by omega)]; exact List.getElem_mem hj, rfl⟩))
        exact ⟨h4 j hj (by omega), this.n, this.ns⟩
      exact ⟨⟨by omega, h6⟩, fun t ht => h2 t (List.mem_append_left _ ht)⟩
    generalize bodies g L0 i = L at hrow hLW fin
    obtain ⟨hLn, hrow⟩ := hrow
    refine LoopOb.inv (ι := Nat × Nat) (fun x => { fl := [(1, .val os.val), (5, .val (.int .i64 x.1)), (7, .val (.int .i64 x.2))], gi := I, mi := os.blk 25 }) (L2 L n) (fun x => L.length - x.2) ?_ ?_
    · exact ⟨(n, 0), ⟨Nat.zero_le _, hn, Nat.le_refl _, fun _ => ⟨Nat.zero_le _, fun j _ h => by simp at h⟩⟩, .refl, .cons .refl (.cons .refl (.cons .refl .nil)), .nil⟩
    rintro ⟨m, k⟩ ⟨hk, hm, hge, hsm2⟩
    simp only at hk hm hge hsm2
    have alls : (m < 2500 → k = L.length) → (m < 2500 → ∀ t ∈ L, TrSmall t) := fun h1 h2 t ht => by
      obtain ⟨j, hj, rfl⟩ := List.getElem_of_mem ht
      exact (hsm2 h2).2 j hj (by have := h1 h2; omega)
    refine GuardOb.mk (fun h3 => CondOb.mk (fun h4 => ?_) (fun h4 => ?_)) (fun h3 => ?_)
    · have hkl : k < os.n := by simpa [OS.val] using h3
      have hm2 : m < 2500 := by have := of_decide_eq_true h4; omega
      obtain ⟨s1, s2⟩ := hsm2 hm2
      have hkl' : k < L.length := by omega
      obtain ⟨ad, had, hrd⟩ := hrow k hkl'
      have hW := hLW _ (List.getElem_mem hkl')
      have hWn := hW.n
      have r2 : Rd I (os.blk 25) ((ad.add (k * 2)).add 0) 1 [.slice L[k].a L[k].n L[k].c] := hrd.part (k := 0) (m := 1) (by decide)
      generalize htt : L[k] = t at hW hWn r2
      refine ArithOb.mk ((m + 1 : Nat) : Int) (wr_eq (by omega) (by omega)) ?_
      refine LoopOb.inv (ι := Nat × Nat) (fun x => { fl := [(1, .val os.val), (5, .val (.int .i64 x.1)), (7, .val (.int .i64 k)), (8, .val (.int .i64 x.2))], gi := I, mi := os.blk 25 }) (L3 L t n k) (fun x => t.n - x.2) ?_ ?_
      · exact ⟨(m + 1, 0), ⟨Nat.zero_le _, by simp only; omega, by simp only; omega, fun h => ⟨by simp only; omega, Nat.zero_le _, s2, fun j _ h => by simp at h⟩⟩, .refl, .cons .refl (.cons .refl (.cons .refl (.cons .refl .nil))), .nil⟩
      rintro ⟨p, q⟩ ⟨hq, hp, hpe, hsm3⟩
      simp only at hq hp hpe hsm3
      have out : (p < 2500 → q = t.n) → L2 L n (p, k + 1) := fun h1 => by
        refine ⟨by simp only; omega, hp, hpe, fun h2 => ?_⟩
        obtain ⟨u1, u2, u3, u4⟩ := hsm3 h2
        have u5 := h1 h2
        refine ⟨u1, fun j hj hj2 => ?_⟩
        by_cases e : j = k
        · subst e
          rw [htt]
          refine ⟨by simp only at h2; omega, fun nd hnd => ?_⟩
          obtain ⟨y, hy, rfl⟩ := List.getElem_of_mem hnd
          exact u4 y hy (by omega)
        · exact u3 j hj (by simp only at hj2; omega)
      refine IdxOb.mk ad k had rfl hkl ?_
      refine LoadOb.mk _ r2 ?_
      refine GuardOb.mk (fun h5 => CondOb.mk (fun h6 => ?_) (fun h6 => ?_)) (fun h5 => ?_)
      · have hql : q < t.n := by simpa using h5
        have hp2 : p < 2500 := by have := of_decide_eq_true h6; omega
        obtain ⟨u1, u2, u3, u4⟩ := hsm3 hp2
        have hql' : q < t.ns.length := by omega
        obtain ⟨bd, hbd, hrb⟩ := hW.rs.row Nd.cells_len hql hql'
        have hnd := hW.ns _ (List.getElem_mem hql')
        have hts := hnd.ts
        have r3 : ∀ M, Rd I M ((bd.add (q * 9)).add 8) 1 [.slice t.ns[q].ka t.ns[q].kn t.ns[q].kc] := fun M => (hrb M).part (k := 8) (m := 1) (by decide)
        have r4 : ∀ M, Rd I M ((bd.add (q * 9)).add 5) 1 [.string t.ns[q].t] := fun M => (hrb M).part (k := 5) (m := 1) (by decide)
        generalize hxx : t.ns[q] = nd at hnd hts r3 r4
        refine CodeOb.draw TrydEOK rfl rfl rfl ?_
        refine ArithOb.mk ((p + 1 : Nat) : Int) (wr_eq (by omega) (by omega)) ?_
        refine IdxOb.mk ad k had rfl hkl ?_
        refine LoadOb.mk _ r2 ?_
        refine IdxOb.mk bd q hbd rfl hql ?_
        refine LoadOb.mk _ (r3 _) ?_
        refine ArithOb.mk ((p + 1 + min 2500 nd.kn : Nat) : Int) (wr_eq (by omega) (by omega)) ?_
        refine IdxOb.mk ad k had rfl hkl ?_
        refine LoadOb.mk _ r2 ?_
        refine IdxOb.mk bd q hbd rfl hql ?_
        refine LoadOb.mk _ (r4 _) ?_
        refine DivOb.mk (by decide) ?_
        refine ArithOb.mk ((min 2500 nd.t.size / 20 : Nat) : Int) (wr_eq (by rw [Int.tdiv_eq_ediv_of_nonneg (by omega)]; omega) (by omega)) ?_
        refine ArithOb.mk ((p + 1 + min 2500 nd.kn + min 2500 nd.t.size / 20 : Nat) : Int) (wr_eq (by omega) (by omega)) ?_
        refine ArithOb.mk _ (next_wr (i := q) (by omega)) ?_
        refine ⟨(_, q + 1), ⟨⟨by simp only; omega, by simp only; omega, by simp only; omega, fun h7 => ?_⟩, by simp only; omega⟩, .refl, .cons .refl (.cons .refl (.cons .refl (.cons .refl .nil))), .nil⟩
        simp only at h7 ⊢
        refine ⟨by omega, by omega, u3, fun j hj hj2 => ?_⟩
        by_cases e : j = q
        · subst e
          rw [hxx]
          exact ⟨by omega⟩
        · exact u4 j hj (by omega)
      · have hp2 : 2500 ≤ p := by have := of_decide_eq_false h6; omega
        refine ArithOb.mk _ (next_wr (i := k) (by omega)) ?_
        exact ⟨(p, k + 1), ⟨out fun h => by omega, by simp only; omega⟩, .refl, .cons .refl (.cons .refl (.cons .refl .nil)), .nil⟩
      · have hql : t.n ≤ q := by simpa using h5
        refine ArithOb.mk _ (next_wr (i := k) (by omega)) ?_
        exact ⟨(p, k + 1), ⟨out fun h => by omega, by simp only; omega⟩, .refl, .cons .refl (.cons .refl (.cons .refl .nil)), .nil⟩
    · have hm2 : 2500 ≤ m := by have := of_decide_eq_false h4; omega
      exact ⟨_, _, .sub (List.nil_sublist _) .refl, ⟨_, rfl, fin m hge (alls fun h => by omega) _ rfl⟩, rfl, rfl⟩
    · have hge2 : os.n ≤ k := by simpa [OS.val] using h3
      exact ⟨_, _, .sub (List.nil_sublist _) .refl, ⟨_, rfl, fin m hge (alls fun h => by omega) _ rfl⟩, rfl, rfl⟩
end Go.V

/-
  Walk: bonsailaw10.FlowLeast; its law.
-/
set_option linter.unusedVariables false
set_option linter.unusedSimpArgs false
namespace Go.V
open Go Go.Proofs

/-- Flows handed in. -/
structure FA where
  l : List Fl
  a : Option Addr
  n : Nat
  c : Nat
def FA.val (x : FA) : Value := .slice x.a x.n x.c
structure FlW (I : GH) (x : FA) : Prop where
  at_ : FsAt I [] x.a x.n x.l
  n : x.n ≤ 9223372036854775807
theorem FlW.mono {I I' : GH} {x : FA} (h : FlW I x) (hI : ∀ b o, I b = some o → I' b = some o) : FlW I' x := ⟨h.at_.mono hI, h.n⟩

theorem treeP_body {g : Gr} (h : MayF g) {m : List Fl} (hm : m.length = g.n) {d : Df} (hd : d ∈ g.ds) : treeP g m d.t = some (bodyF (placesL g.ds) m d) := by
  unfold treeP nodesP bodyF
  rw [h.right d hd, h.named d hd]
  simp [hm]

structure LeastIn (g : Gr) (J : GH) (ks : List Fl) (x : Nat × Bool × GH) : Prop where
  i : x.1 ≤ g.n
  I : ∀ b o, J b = some o → x.2.2 b = some o
  c : x.2.1 = true → ks.length = g.n ∧ ∀ j (h : j < g.ds.length), j < x.1 → (bodyF (placesL g.ds) ks g.ds[j]).le (ks.getD j fl0)

set_option maxRecDepth 100000 in
set_option maxHeartbeats 8000000 in
theorem flowLeast_V {I : GH} (hT : Tabs I debL) {g : Gr} (hg : GrW I g) {x : FA} (hx : FlW I x) : SpecE Tryd.prog 7 [g.val, x.val] I [] fun v I' M' => v = .bool true := by
  refine specE_of_V [] TrydEOK Tryd.func7 rfl rfl rfl ?_
  intro B h0
  refine CallOb.mk [] [] _ (.refl _) (works10_spec hT) ?_
  rintro v I1 M1 - ⟨rfl, hI1, rfl⟩
  have hT1 := hT.mono hI1
  have hg1 := hg.mono hI1
  have hx1 := hx.mono hI1
  refine GuardOb.mk (fun _ => ?_) (fun h => by simp at h)
  refine CallOb.mk [] [] _ (.refl _) (long10_spec hg1 (os0 := OS0) (L0 := []) (OS0_ok 2) (fun t ht => by cases ht) (Nat.zero_le _)) ?_
  rintro v I2 M2 - ⟨⟨r, rfl, hr⟩, rfl, rfl⟩
  refine GuardOb.mk (fun h => ?_) (fun h => ?_)
  rotate_left
  · refine CallOb.mk [] [] _ (.refl _) (works10_spec hT1) ?_
    rintro v I3 M3 - ⟨rfl, hI3, rfl⟩
    exact ⟨_, _, .refl, rfl⟩
  have hs := (hr h).1
  refine CondOb.mk (fun _ => ?_) (fun hlen => ?_)
  · refine CallOb.mk [] [] _ (.refl _) (works10_spec hT1) ?_
    rintro v I3 M3 - ⟨rfl, hI3, rfl⟩
    exact ⟨_, _, .refl, rfl⟩
  have hok := hg1.ok hs
  have hgn := hok.n
  have hn := hs.n
  have hxl : x.l.length ≤ 500 := by
    have := of_decide_eq_false hlen
    have := hx.at_.n
    omega
  refine CallOb.mk [] [] _ (.refl _) (FOf_spec hT1 hok) ?_
  rintro v I3 M3 - ⟨hI3, ⟨hm, rfl, rfl⟩ | ⟨hm, bF, fl, rfl, rfl, hfl⟩⟩
  · refine CondOb.mk (fun _ => ?_) (fun h' => ?_)
    · refine CallOb.mk [] [] _ (.refl _) (May_spec (hT1.mono hI3) (hok.mono hI3)) ?_
      rintro v I4 M4 - ⟨rfl, hI4, rfl⟩
      refine GuardOb.mk (fun _ => ?_) (fun h' => ?_)
      · exact ⟨_, _, .refl, rfl⟩
      · simp at h'
    · simp [hm] at h'
  have hT3 := hT1.mono hI3
  have hok3 := hok.mono hI3
  have hx3 := hx1.mono hI3
  have hmf := mayF_of hgn hm
  have hfn : fl.length = g.n := by rw [hfl.len, hgn]
  have hxn := hx.at_.n
  refine CondOb.mk (fun h' => by simp at h') (fun _ => ?_)
  refine LoopOb.inv (ι := Nat × Bool × GH) (fun s => { fl := [(1, .val x.val), (2, .ref 2 0), (5, .val (.slice (some ⟨bF, 0, none⟩) g.n g.n)), (7, .val (.bool s.2.1)), (8, .val (.int .i64 s.1))], cl := [(2, [.slice g.a g.n g.c])], gi := s.2.2, mi := [flRow bF fl] }) (LeastIn g I3 x.l) (fun s => g.n - s.1) ?_ ?_
  · refine ⟨(0, decide ((x.n : Int) = (g.n : Int)), I3), ⟨Nat.zero_le _, fun _ _ h => h, fun h => ⟨?_, fun j _ h => by simp at h⟩⟩, .refl, .cons .refl (.cons .refl (.cons .refl (.cons .refl (.cons .refl .nil)))), .cons rfl .nil⟩
    simp only [decide_eq_true_eq] at h
    omega
  rintro ⟨i, cl, J⟩ ⟨hi, hJ, hcl⟩
  simp only at hi hJ hcl
  have hTJ := hT3.mono hJ
  have hokJ := hok3.mono hJ
  have hxJ := hx3.mono hJ
  refine CondOb.mk (fun h1 => ?_) (fun h1 => ?_)
  · have hlt : i < g.n := by simpa using h1
    have hlt' : i < g.ds.length := by omega
    obtain ⟨ad, had, hrd⟩ := hokJ.rs.row Df.cells_len hlt hlt'
    have r2 : ∀ M, Rd J M ((ad.add (i * 3)).add 1) 2 g.ds[i].t.cells := fun M => (hrd M).part (k := 1) (m := 2) (by decide)
    have hd := hokJ.ds _ (List.getElem_mem hlt')
    have hbody := treeP_body hmf hfn (List.getElem_mem hlt')
    have hfix := hfl.fix i hlt'
    have hbx : ∀ h : x.l.length = g.n, treeP g x.l g.ds[i].t = some (bodyF (placesL g.ds) x.l g.ds[i]) := fun h => treeP_body hmf h (List.getElem_mem hlt')
    have hclI : cl = true → ∀ p : Bool, p = within (bodyF (placesL g.ds) x.l g.ds[i]) (x.l.getD i fl0) → p = true → x.l.length = g.n ∧ ∀ j (h : j < g.ds.length), j < i + 1 → (bodyF (placesL g.ds) x.l g.ds[j]).le (x.l.getD j fl0) := fun h p hp hpt => by
      obtain ⟨a1, a2⟩ := hcl h
      refine ⟨a1, fun j hj hj2 => ?_⟩
      by_cases e : j = i
      · subst e
        rw [hp] at hpt
        exact within_iff.1 hpt
      · exact a2 j hj (by omega)
    generalize hdd : g.ds[i] = d at r2 hd hbody hfix hbx hclI
    generalize hbb : bodyF (placesL g.ds) fl d = bb at hbody hfix
    have hsp := FTree_spec (M0 := [flRow bF fl]) (lc := g.n) hTJ hokJ hd.t (flRow_at (l := fl) (List.mem_singleton.2 rfl))
    rw [hbody, hfn] at hsp
    refine CodeOb.drawC TrydEOK rfl rfl rfl (ι := Nat × GH) (fun s => { fl := [(1, .val x.val), (2, .ref 2 0), (5, .val (.slice (some ⟨bF, 0, none⟩) g.n g.n)), (7, .val (.bool cl)), (8, .val (.int .i64 i)), (9, .val (ptr s.1)), (10, .val (.bool true))], cl := [(2, [.slice g.a g.n g.c])], gi := s.2, mi := [⟨s.1, .cells bb.cells.toArray 55 (0, 0)⟩, flRow bF fl] }) (fun s => ∀ b o, J b = some o → s.2 b = some o) ?_ ?_
    · refine IdxOb.mk ad i had rfl hlt ?_
      refine LoadOb.mk _ (r2 _) ?_
      refine ⟨?_, ?_⟩
      · refine CallOb.mk [flRow bF fl] [] _ (.refl _) hsp ?_
        rintro v K1 M4 - ⟨hK1, rfl, rfl⟩
        refine AllocOb.mk fun b9 hb9 hbM9 => ?_
        refine StoreOb.to [] _ _ _ rfl rfl rfl rfl bb.cells rfl ?_
        exact ⟨(b9, K1), hK1, .refl, .cons .refl (.cons .refl (.cons .refl (.cons .refl (.cons .refl (.cons .refl (.cons .refl .nil)))))), .cons rfl .nil⟩
      · refine AllocOb.mk fun b9 hb9 hbM9 => ?_
        refine PCallOb.mkR [flRow bF fl] [(⟨b9, .cells fl0.cells.toArray 55 (0, 0)⟩ : Blk)] _ (.swap _ _ _) hsp (fun v I' M' h x hx => by rw [h.2.1]; exact hx) ?_
        rintro v K1 M4 hK1 ⟨-, rfl, rfl⟩
        refine StoreOb.to [flRow bF fl] _ _ _ rfl rfl rfl rfl bb.cells rfl ?_
        exact ⟨(b9, K1), hK1, .perm (.swap _ _ _) .refl, .cons .refl (.cons .refl (.cons .refl (.cons .refl (.cons .refl (.cons .refl (.cons .refl .nil)))))), .cons rfl .nil⟩
    rintro ⟨b9, K⟩ hK
    simp only at hK
    have hxK := hxJ.mono hK
    have hflt : i < fl.length := by omega
    have hfi : fl[i] = bb := by
      rw [← hfix, List.getD_eq_getElem?_getD, List.getElem?_eq_getElem hflt]
      rfl
    refine CodeOb.draw TrydEOK rfl rfl rfl ?_
    refine GuardOb.mk (fun _ => ?_) (fun h' => by simp at h')
    refine LoadOb.mk bb.cells (blk_rd0 (.head _)) ?_
    refine IdxOb.mk ⟨bF, 0, none⟩ i rfl rfl hlt ?_
    refine LoadOb.mk _ (flRow_rd (.tail _ (.head _)) hflt) ?_
    refine BinOb.neF (p := bb) (q := fl[i]) ?_
    refine CondOb.mk (fun h' => ?_) (fun _ => ?_)
    · rw [hfi] at h'
      simp at h'
    refine CondOb.mk (fun hc => ?_) (fun hc => ?_)
    · obtain ⟨a1, a2⟩ := hcl hc
      have hxlt : i < x.l.length := by omega
      have hKT := hTJ.mono hK
      have hKok := hokJ.mono hK
      have hsp2 := FTree_spec (M0 := []) (lc := x.c) hKT hKok (hd.t.mono hK) hxK.at_
      rw [hbx a1] at hsp2
      generalize hb2 : bodyF (placesL g.ds) x.l d = b2 at hsp2 hclI
      refine CodeOb.drawC TrydEOK rfl rfl rfl (ι := Nat × GH) (fun s => { fl := [(1, .val x.val), (2, .ref 2 0), (5, .val (.slice (some ⟨bF, 0, none⟩) g.n g.n)), (8, .val (.int .i64 i)), (11, .val (ptr s.1))], cl := [(2, [.slice g.a g.n g.c])], gi := s.2, mi := [⟨s.1, .cells b2.cells.toArray 55 (0, 0)⟩, flRow bF fl] }) (fun s => ∀ b o, K b = some o → s.2 b = some o) ?_ ?_
      · refine IdxOb.mk ad i had rfl hlt ?_
        refine LoadOb.mk _ ((r2 _).mono hK) ?_
        refine ⟨?_, ?_⟩
        · refine CallOb.mk [] [_, _] _ (.refl _) hsp2 ?_
          rintro v K1 M4 - ⟨hK1, rfl, rfl⟩
          refine AllocOb.mk fun b11 hb11 hbM11 => ?_
          refine StoreOb.to [] _ _ _ rfl rfl rfl rfl b2.cells rfl ?_
          exact ⟨(b11, K1), hK1, .sub (.cons_cons _ (.cons _ (.refl _))) .refl, .cons .refl (.cons .refl (.cons .refl (.cons .refl (.cons .refl .nil)))), .cons rfl .nil⟩
        · refine AllocOb.mk fun b11 hb11 hbM11 => ?_
          refine PCallOb.mk _ hsp2 ?_
          rintro v K1 M4 hK1 ⟨-, rfl, rfl⟩
          refine StoreOb.to [] _ _ _ rfl rfl rfl rfl b2.cells rfl ?_
          exact ⟨(b11, K1), hK1, .sub (.cons_cons _ (.cons _ (.refl _))) .refl, .cons .refl (.cons .refl (.cons .refl (.cons .refl (.cons .refl .nil)))), .cons rfl .nil⟩
      rintro ⟨b11, K2⟩ hK2
      simp only at hK2
      obtain ⟨ax, hax, hrx⟩ := (hxK.mono hK2).at_.rd i hxlt
      refine CodeOb.draw TrydEOK rfl rfl rfl ?_
      refine LoadOb.mk b2.cells (blk_rd0 (.head _)) ?_
      refine IdxOb.mk ax i hax rfl (by omega) ?_
      refine LoadOb.mk _ (hrx.sub (fun y hy => by cases hy)) ?_
      refine CallOb.mk [] _ _ (.refl _) (Within_spec (M := []) b2 x.l[i]) ?_
      rintro v K3 M5 - ⟨rfl, rfl, rfl⟩
      refine ArithOb.mk _ (next_wr (i := i) (by omega)) ?_
      refine ⟨(i + 1, within b2 x.l[i], _), ⟨⟨by simp only; omega, fun b o h => hK2 _ _ (hK _ _ (hJ _ _ h)), fun h => ?_⟩, by simp only; omega⟩, .sub (.cons _ (.refl _)) .refl, .cons .refl (.cons .refl (.cons .refl (.cons .refl (.cons .refl .nil)))), .cons rfl .nil⟩
      simp only at h
      exact hclI hc _ (by rw [List.getD_eq_getElem?_getD, List.getElem?_eq_getElem hxlt]; rfl) h
    · refine ArithOb.mk _ (next_wr (i := i) (by omega)) ?_
      refine ⟨(i + 1, cl, K), ⟨⟨by simp only; omega, fun b o h => hK _ _ (hJ _ _ h), fun h => ?_⟩, by simp only; omega⟩, .sub (.cons _ (.refl _)) .refl, .cons .refl (.cons .refl (.cons .refl (.cons .refl (.cons .refl .nil)))), .cons rfl .nil⟩
      simp only at h
      rw [h] at hc
      cases hc
  have hge : g.n ≤ i := by simpa using h1
  have hle : cl = true → LeL fl x.l := fun h => by
    obtain ⟨a1, a2⟩ := hcl h
    exact hfl.least x.l (by omega) fun j hj => a2 j hj (by omega)
  refine LoopOb.inv (ι := Nat) (fun j => { fl := [(1, .val x.val), (5, .val (.slice (some ⟨bF, 0, none⟩) g.n g.n)), (7, .val (.bool cl)), (13, .val (.int .i64 j))], gi := J, mi := [flRow bF fl] }) (fun j => j ≤ g.n) (fun j => g.n - j) ?_ ?_
  · exact ⟨0, Nat.zero_le _, .refl, .cons .refl (.cons .refl (.cons .refl (.cons .refl .nil))), .nil⟩
  intro j hj
  refine GuardOb.mk (fun h2 => CondOb.mk (fun h3 => ?_) (fun h3 => ?_)) (fun h2 => ?_)
  · have hjn : j < g.n := by simpa using h2
    have hL := hle h3
    have hxl2 : j < x.l.length := by rw [← hL.len]; omega
    have hjf : j < fl.length := by omega
    obtain ⟨ax, hax, hrx⟩ := hxJ.at_.rd j hxl2
    refine CodeOb.draw TrydEOK rfl rfl rfl ?_
    refine IdxOb.mk ⟨bF, 0, none⟩ j rfl rfl hjn ?_
    refine LoadOb.mk _ (flRow_rd (.head _) hjf) ?_
    refine IdxOb.mk ax j hax rfl (by omega) ?_
    refine LoadOb.mk _ (hrx.sub (fun y hy => by cases hy)) ?_
    refine CallOb.mk [] _ _ (.refl _) (Within_spec (M := []) fl[j] x.l[j]) ?_
    rintro v K3 M5 - ⟨rfl, rfl, rfl⟩
    have hw : within fl[j] x.l[j] = true := by
      refine within_iff.2 ?_
      have := hL.getD j
      rwa [List.getD_eq_getElem?_getD, List.getD_eq_getElem?_getD, List.getElem?_eq_getElem hjf, List.getElem?_eq_getElem hxl2] at this
    refine CondOb.mk (fun h4 => ?_) (fun _ => ?_)
    · simp [hw] at h4
    refine ArithOb.mk _ (next_wr (i := j) (by omega)) ?_
    exact ⟨j + 1, ⟨by omega, by omega⟩, .refl, .cons .refl (.cons .refl (.cons .refl (.cons .refl .nil))), .nil⟩
  · exact ⟨_, _, .refl, rfl⟩
  · exact ⟨_, _, .refl, rfl⟩
end Go.V

/-
  Plain: what comes of the trees of bonsailaw10.FlowNames, by their nodes alone.
-/
set_option linter.unusedVariables false
set_option linter.unusedSimpArgs false
namespace Go.V
open Go Go.Proofs

def nT : List Nd := [leafNd 2 (cB 116)]
def nLs : List (List Nd) := [[leafNd 3 (cB 120)], [leafNd 0 nB], nT, [setNd 0 0 0 0], ofL (opNd 6 nB 0 (-1)) [nT], ofL (opNd 7 nB 0 0) [nT]]
def nWs : List Fl := [⟨false, false, false⟩, ⟨true, false, false⟩, ⟨false, true, true⟩, ⟨false, false, true⟩, ⟨true, true, false⟩, ⟨true, false, true⟩]
def nL (i : Nat) : List Nd := nLs.getD i []
def nW (i : Nat) : Fl := nWs.getD i fl0
def seqF (f h : Fl) : Fl := ⟨f.z && h.z, (f.suc && h.suc) && (f.s || h.s), f.f || (f.suc && h.f)⟩
def choF (f h : Fl) : Fl := ⟨f.z || (f.f && h.z), f.s || (f.f && h.s), f.f && h.f⟩
/-- Each node of one kid: what it is, what comes of it. -/
def nOnes : List (Nd × (Fl → Fl)) := [(opNd 9 (cB 110) 0 0, id), (opNd 7 nB 0 0, fun f => ⟨f.suc, false, f.f⟩), (opNd 8 nB 0 0, fun f => ⟨f.f, false, f.suc⟩), (opNd 6 nB 0 3, fun f => ⟨f.z || f.f, f.s, false⟩), (opNd 6 nB 1 1, id)]
def oneOk (i : Nat) (p : Nd × (Fl → Fl)) : Bool := ofB p.1 [nL i] && decide (leafV (ofL p.1 [nL i]) = p.2 (nW i))
def twoOk (i k : Nat) : Bool := (ofB (opNd 4 nB 0 0) [nL i, nL k] && decide (leafV (ofL (opNd 4 nB 0 0) [nL i, nL k]) = seqF (nW i) (nW k))) && (ofB (opNd 5 nB 0 0) [nL i, nL k] && decide (leafV (ofL (opNd 5 nB 0 0) [nL i, nL k]) = choF (nW i) (nW k)))
theorem nOnes_ok : ((List.range 6).all fun i => decide (leafV (nL i) = nW i) && nOnes.all (oneOk i)) = true := by kernel_rfl
theorem nTwos_ok : ((List.range 6).all fun i => (List.range 6).all fun k => twoOk i k) = true := by kernel_rfl
theorem nOf4 : ofB (opNd 6 nB 0 (-1)) [nT] = true := by kernel_rfl
theorem nOf5 : ofB (opNd 7 nB 0 0) [nT] = true := by kernel_rfl
end Go.V
