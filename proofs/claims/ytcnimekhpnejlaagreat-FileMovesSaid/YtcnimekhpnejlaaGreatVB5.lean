/- Texts of this seat joined into one: EvFun, EvTab, Ru, Op, G0, G1T, G1, G2, G3T, Lp. -/
import Derived.Test.YtcnimekhpnejlaaGreatVB3
import Derived.Test.YtcnimekhpnejlaaGreatProg
import Derived.Test.YtcnimekhpnejlaaGreatVB4

/- The table of the functions (written by wip/ev/tools/genfun.py). -/
namespace Go.Proofs.YtcnimekhpnejlaaGreat.Ev
open Go Go.RowKit
set_option maxRecDepth 100000
def T.All {α : Type} (p : Nat → α → Prop) (t : T α) : Prop := ∀ i x, t.get i = some x → p i x
theorem T.all_nil {α : Type} {p : Nat → α → Prop} : T.All p .nil := fun _ _ h => by cases h
theorem T.all_node {α : Type} {p : Nat → α → Prop} {v : Option α} {l r : T α} (hv : ∀ x, v = some x → p 0 x) (hl : T.All (fun i => p (2 * i + 1)) l) (hr : T.All (fun i => p (2 * i + 2)) r) : T.All p (.node v l r) := fun i x h => by
  unfold T.get at h
  split at h
  · rename_i h0; subst h0; exact hv x h
  · split at h
    · have h2 : p (2 * (i / 2) + 1) x := hl _ x h
      rwa [show 2 * (i / 2) + 1 = i by omega] at h2
    · have h2 : p (2 * (i / 2 - 1) + 2) x := hr _ x h
      rwa [show 2 * (i / 2 - 1) + 2 = i by omega] at h2
def FOk (i : Nat) (f : Func) : Prop := Tryz.prog.funcs[i]? = some f ∧ (f.name == "runtime.NumGoroutine") = false ∧ f.body.isNone = false
theorem fok {i : Nat} {f : Func} (h : FOk i f) : ∀ x, some f = some x → FOk i x := fun x e => by cases e; exact h
theorem fno {i : Nat} : ∀ x, (none : Option Func) = some x → FOk i x := fun x e => by cases e
theorem ok2 : FOk 2 Tryz.f2 := ⟨Tryz.func2, by kernel_rfl, by kernel_rfl⟩
theorem ok3 : FOk 3 Tryz.f3 := ⟨Tryz.func3, by kernel_rfl, by kernel_rfl⟩
theorem ok4 : FOk 4 Tryz.f4 := ⟨Tryz.func4, by kernel_rfl, by kernel_rfl⟩
theorem ok5 : FOk 5 Tryz.f5 := ⟨Tryz.func5, by kernel_rfl, by kernel_rfl⟩
theorem ok6 : FOk 6 Tryz.f6 := ⟨Tryz.func6, by kernel_rfl, by kernel_rfl⟩
theorem ok7 : FOk 7 Tryz.f7 := ⟨Tryz.func7, by kernel_rfl, by kernel_rfl⟩
theorem ok8 : FOk 8 Tryz.f8 := ⟨Tryz.func8, by kernel_rfl, by kernel_rfl⟩
theorem ok9 : FOk 9 Tryz.f9 := ⟨Tryz.func9, by kernel_rfl, by kernel_rfl⟩
theorem ok10 : FOk 10 Tryz.f10 := ⟨Tryz.func10, by kernel_rfl, by kernel_rfl⟩
theorem ok11 : FOk 11 Tryz.f11 := ⟨Tryz.func11, by kernel_rfl, by kernel_rfl⟩
theorem ok12 : FOk 12 Tryz.f12 := ⟨Tryz.func12, by kernel_rfl, by kernel_rfl⟩
theorem ok13 : FOk 13 Tryz.f13 := ⟨Tryz.func13, by kernel_rfl, by kernel_rfl⟩
theorem ok14 : FOk 14 Tryz.f14 := ⟨Tryz.func14, by kernel_rfl, by kernel_rfl⟩
theorem ok15 : FOk 15 Tryz.f15 := ⟨Tryz.func15, by kernel_rfl, by kernel_rfl⟩
theorem ok16 : FOk 16 Tryz.f16 := ⟨Tryz.func16, by kernel_rfl, by kernel_rfl⟩
theorem ok17 : FOk 17 Tryz.f17 := ⟨Tryz.func17, by kernel_rfl, by kernel_rfl⟩
theorem ok18 : FOk 18 Tryz.f18 := ⟨Tryz.func18, by kernel_rfl, by kernel_rfl⟩
theorem ok19 : FOk 19 Tryz.f19 := ⟨Tryz.func19, by kernel_rfl, by kernel_rfl⟩
theorem ok20 : FOk 20 Tryz.f20 := ⟨Tryz.func20, by kernel_rfl, by kernel_rfl⟩
theorem ok21 : FOk 21 Tryz.f21 := ⟨Tryz.func21, by kernel_rfl, by kernel_rfl⟩
theorem ok22 : FOk 22 Tryz.f22 := ⟨Tryz.func22, by kernel_rfl, by kernel_rfl⟩
theorem ok23 : FOk 23 Tryz.f23 := ⟨Tryz.func23, by kernel_rfl, by kernel_rfl⟩
theorem ok24 : FOk 24 Tryz.f24 := ⟨Tryz.func24, by kernel_rfl, by kernel_rfl⟩
theorem ok25 : FOk 25 Tryz.f25 := ⟨Tryz.func25, by kernel_rfl, by kernel_rfl⟩
theorem ok26 : FOk 26 Tryz.f26 := ⟨Tryz.func26, by kernel_rfl, by kernel_rfl⟩
theorem ok27 : FOk 27 Tryz.f27 := ⟨Tryz.func27, by kernel_rfl, by kernel_rfl⟩
theorem ok28 : FOk 28 Tryz.f28 := ⟨Tryz.func28, by kernel_rfl, by kernel_rfl⟩
theorem ok29 : FOk 29 Tryz.f29 := ⟨Tryz.func29, by kernel_rfl, by kernel_rfl⟩
theorem ok30 : FOk 30 Tryz.f30 := ⟨Tryz.func30, by kernel_rfl, by kernel_rfl⟩
theorem ok31 : FOk 31 Tryz.f31 := ⟨Tryz.func31, by kernel_rfl, by kernel_rfl⟩
theorem ok32 : FOk 32 Tryz.f32 := ⟨Tryz.func32, by kernel_rfl, by kernel_rfl⟩
theorem ok33 : FOk 33 Tryz.f33 := ⟨Tryz.func33, by kernel_rfl, by kernel_rfl⟩
theorem ok34 : FOk 34 Tryz.f34 := ⟨Tryz.func34, by kernel_rfl, by kernel_rfl⟩
theorem ok35 : FOk 35 Tryz.f35 := ⟨Tryz.func35, by kernel_rfl, by kernel_rfl⟩
theorem ok36 : FOk 36 Tryz.f36 := ⟨Tryz.func36, by kernel_rfl, by kernel_rfl⟩
theorem ok37 : FOk 37 Tryz.f37 := ⟨Tryz.func37, by kernel_rfl, by kernel_rfl⟩
theorem ok38 : FOk 38 Tryz.f38 := ⟨Tryz.func38, by kernel_rfl, by kernel_rfl⟩
theorem ok39 : FOk 39 Tryz.f39 := ⟨Tryz.func39, by kernel_rfl, by kernel_rfl⟩
theorem ok40 : FOk 40 Tryz.f40 := ⟨Tryz.func40, by kernel_rfl, by kernel_rfl⟩
theorem ok41 : FOk 41 Tryz.f41 := ⟨Tryz.func41, by kernel_rfl, by kernel_rfl⟩
theorem ok42 : FOk 42 Tryz.f42 := ⟨Tryz.func42, by kernel_rfl, by kernel_rfl⟩
theorem ok43 : FOk 43 Tryz.f43 := ⟨Tryz.func43, by kernel_rfl, by kernel_rfl⟩
theorem ok44 : FOk 44 Tryz.f44 := ⟨Tryz.func44, by kernel_rfl, by kernel_rfl⟩
theorem ok45 : FOk 45 Tryz.f45 := ⟨Tryz.func45, by kernel_rfl, by kernel_rfl⟩
theorem ok46 : FOk 46 Tryz.f46 := ⟨Tryz.func46, by kernel_rfl, by kernel_rfl⟩
theorem ok47 : FOk 47 Tryz.f47 := ⟨Tryz.func47, by kernel_rfl, by kernel_rfl⟩
theorem ok48 : FOk 48 Tryz.f48 := ⟨Tryz.func48, by kernel_rfl, by kernel_rfl⟩
theorem ok49 : FOk 49 Tryz.f49 := ⟨Tryz.func49, by kernel_rfl, by kernel_rfl⟩
theorem ok50 : FOk 50 Tryz.f50 := ⟨Tryz.func50, by kernel_rfl, by kernel_rfl⟩
theorem ok51 : FOk 51 Tryz.f51 := ⟨Tryz.func51, by kernel_rfl, by kernel_rfl⟩
theorem ok52 : FOk 52 Tryz.f52 := ⟨Tryz.func52, by kernel_rfl, by kernel_rfl⟩
theorem ok53 : FOk 53 Tryz.f53 := ⟨Tryz.func53, by kernel_rfl, by kernel_rfl⟩
theorem ok54 : FOk 54 Tryz.f54 := ⟨Tryz.func54, by kernel_rfl, by kernel_rfl⟩
theorem ok55 : FOk 55 Tryz.f55 := ⟨Tryz.func55, by kernel_rfl, by kernel_rfl⟩
theorem ok56 : FOk 56 Tryz.f56 := ⟨Tryz.func56, by kernel_rfl, by kernel_rfl⟩
theorem ok57 : FOk 57 Tryz.f57 := ⟨Tryz.func57, by kernel_rfl, by kernel_rfl⟩
theorem ok58 : FOk 58 Tryz.f58 := ⟨Tryz.func58, by kernel_rfl, by kernel_rfl⟩
theorem ok59 : FOk 59 Tryz.f59 := ⟨Tryz.func59, by kernel_rfl, by kernel_rfl⟩
theorem ok60 : FOk 60 Tryz.f60 := ⟨Tryz.func60, by kernel_rfl, by kernel_rfl⟩
theorem ok61 : FOk 61 Tryz.f61 := ⟨Tryz.func61, by kernel_rfl, by kernel_rfl⟩
theorem ok62 : FOk 62 Tryz.f62 := ⟨Tryz.func62, by kernel_rfl, by kernel_rfl⟩
theorem ok63 : FOk 63 Tryz.f63 := ⟨Tryz.func63, by kernel_rfl, by kernel_rfl⟩
theorem ok64 : FOk 64 Tryz.f64 := ⟨Tryz.func64, by kernel_rfl, by kernel_rfl⟩
theorem ok65 : FOk 65 Tryz.f65 := ⟨Tryz.func65, by kernel_rfl, by kernel_rfl⟩
theorem ok66 : FOk 66 Tryz.f66 := ⟨Tryz.func66, by kernel_rfl, by kernel_rfl⟩
theorem ok67 : FOk 67 Tryz.f67 := ⟨Tryz.func67, by kernel_rfl, by kernel_rfl⟩
theorem ok68 : FOk 68 Tryz.f68 := ⟨Tryz.func68, by kernel_rfl, by kernel_rfl⟩
theorem ok69 : FOk 69 Tryz.f69 := ⟨Tryz.func69, by kernel_rfl, by kernel_rfl⟩
theorem ok70 : FOk 70 Tryz.f70 := ⟨Tryz.func70, by kernel_rfl, by kernel_rfl⟩
theorem ok71 : FOk 71 Tryz.f71 := ⟨Tryz.func71, by kernel_rfl, by kernel_rfl⟩
theorem ok72 : FOk 72 Tryz.f72 := ⟨Tryz.func72, by kernel_rfl, by kernel_rfl⟩
theorem ok73 : FOk 73 Tryz.f73 := ⟨Tryz.func73, by kernel_rfl, by kernel_rfl⟩
theorem ok74 : FOk 74 Tryz.f74 := ⟨Tryz.func74, by kernel_rfl, by kernel_rfl⟩
theorem ok75 : FOk 75 Tryz.f75 := ⟨Tryz.func75, by kernel_rfl, by kernel_rfl⟩
theorem ok76 : FOk 76 Tryz.f76 := ⟨Tryz.func76, by kernel_rfl, by kernel_rfl⟩
theorem ok77 : FOk 77 Tryz.f77 := ⟨Tryz.func77, by kernel_rfl, by kernel_rfl⟩
theorem ok78 : FOk 78 Tryz.f78 := ⟨Tryz.func78, by kernel_rfl, by kernel_rfl⟩
theorem ok79 : FOk 79 Tryz.f79 := ⟨Tryz.func79, by kernel_rfl, by kernel_rfl⟩
theorem ok80 : FOk 80 Tryz.f80 := ⟨Tryz.func80, by kernel_rfl, by kernel_rfl⟩
theorem ok81 : FOk 81 Tryz.f81 := ⟨Tryz.func81, by kernel_rfl, by kernel_rfl⟩
theorem ok82 : FOk 82 Tryz.f82 := ⟨Tryz.func82, by kernel_rfl, by kernel_rfl⟩
theorem ok83 : FOk 83 Tryz.f83 := ⟨Tryz.func83, by kernel_rfl, by kernel_rfl⟩
theorem ok85 : FOk 85 Tryz.f85 := ⟨Tryz.func85, by kernel_rfl, by kernel_rfl⟩
theorem ok87 : FOk 87 Tryz.f87 := ⟨Tryz.func87, by kernel_rfl, by kernel_rfl⟩
theorem ok88 : FOk 88 Tryz.f88 := ⟨Tryz.func88, by kernel_rfl, by kernel_rfl⟩
theorem ok89 : FOk 89 Tryz.f89 := ⟨Tryz.func89, by kernel_rfl, by kernel_rfl⟩
theorem ok90 : FOk 90 Tryz.f90 := ⟨Tryz.func90, by kernel_rfl, by kernel_rfl⟩
theorem ok91 : FOk 91 Tryz.f91 := ⟨Tryz.func91, by kernel_rfl, by kernel_rfl⟩
theorem ok92 : FOk 92 Tryz.f92 := ⟨Tryz.func92, by kernel_rfl, by kernel_rfl⟩
theorem ok94 : FOk 94 Tryz.f94 := ⟨Tryz.func94, by kernel_rfl, by kernel_rfl⟩
theorem ok95 : FOk 95 Tryz.f95 := ⟨Tryz.func95, by kernel_rfl, by kernel_rfl⟩
theorem ok96 : FOk 96 Tryz.f96 := ⟨Tryz.func96, by kernel_rfl, by kernel_rfl⟩
theorem ok97 : FOk 97 Tryz.f97 := ⟨Tryz.func97, by kernel_rfl, by kernel_rfl⟩
theorem ok98 : FOk 98 Tryz.f98 := ⟨Tryz.func98, by kernel_rfl, by kernel_rfl⟩
theorem ok99 : FOk 99 Tryz.f99 := ⟨Tryz.func99, by kernel_rfl, by kernel_rfl⟩
theorem ok100 : FOk 100 Tryz.f100 := ⟨Tryz.func100, by kernel_rfl, by kernel_rfl⟩
theorem ok101 : FOk 101 Tryz.f101 := ⟨Tryz.func101, by kernel_rfl, by kernel_rfl⟩
theorem ok102 : FOk 102 Tryz.f102 := ⟨Tryz.func102, by kernel_rfl, by kernel_rfl⟩
theorem ok103 : FOk 103 Tryz.f103 := ⟨Tryz.func103, by kernel_rfl, by kernel_rfl⟩
theorem ok104 : FOk 104 Tryz.f104 := ⟨Tryz.func104, by kernel_rfl, by kernel_rfl⟩
theorem ok105 : FOk 105 Tryz.f105 := ⟨Tryz.func105, by kernel_rfl, by kernel_rfl⟩
theorem ok106 : FOk 106 Tryz.f106 := ⟨Tryz.func106, by kernel_rfl, by kernel_rfl⟩
theorem ok107 : FOk 107 Tryz.f107 := ⟨Tryz.func107, by kernel_rfl, by kernel_rfl⟩
theorem ok108 : FOk 108 Tryz.f108 := ⟨Tryz.func108, by kernel_rfl, by kernel_rfl⟩
theorem ok109 : FOk 109 Tryz.f109 := ⟨Tryz.func109, by kernel_rfl, by kernel_rfl⟩
theorem ok110 : FOk 110 Tryz.f110 := ⟨Tryz.func110, by kernel_rfl, by kernel_rfl⟩
theorem ok111 : FOk 111 Tryz.f111 := ⟨Tryz.func111, by kernel_rfl, by kernel_rfl⟩
theorem ok112 : FOk 112 Tryz.f112 := ⟨Tryz.func112, by kernel_rfl, by kernel_rfl⟩
theorem ok113 : FOk 113 Tryz.f113 := ⟨Tryz.func113, by kernel_rfl, by kernel_rfl⟩
theorem ok114 : FOk 114 Tryz.f114 := ⟨Tryz.func114, by kernel_rfl, by kernel_rfl⟩
theorem ok115 : FOk 115 Tryz.f115 := ⟨Tryz.func115, by kernel_rfl, by kernel_rfl⟩
theorem ok116 : FOk 116 Tryz.f116 := ⟨Tryz.func116, by kernel_rfl, by kernel_rfl⟩
theorem ok117 : FOk 117 Tryz.f117 := ⟨Tryz.func117, by kernel_rfl, by kernel_rfl⟩
theorem ok118 : FOk 118 Tryz.f118 := ⟨Tryz.func118, by kernel_rfl, by kernel_rfl⟩
theorem ok119 : FOk 119 Tryz.f119 := ⟨Tryz.func119, by kernel_rfl, by kernel_rfl⟩
theorem ok120 : FOk 120 Tryz.f120 := ⟨Tryz.func120, by kernel_rfl, by kernel_rfl⟩
theorem ok121 : FOk 121 Tryz.f121 := ⟨Tryz.func121, by kernel_rfl, by kernel_rfl⟩
theorem ok122 : FOk 122 Tryz.f122 := ⟨Tryz.func122, by kernel_rfl, by kernel_rfl⟩
theorem ok123 : FOk 123 Tryz.f123 := ⟨Tryz.func123, by kernel_rfl, by kernel_rfl⟩
theorem ok124 : FOk 124 Tryz.f124 := ⟨Tryz.func124, by kernel_rfl, by kernel_rfl⟩
theorem ok125 : FOk 125 Tryz.f125 := ⟨Tryz.func125, by kernel_rfl, by kernel_rfl⟩
theorem ok126 : FOk 126 Tryz.f126 := ⟨Tryz.func126, by kernel_rfl, by kernel_rfl⟩
theorem ok127 : FOk 127 Tryz.f127 := ⟨Tryz.func127, by kernel_rfl, by kernel_rfl⟩
theorem ok128 : FOk 128 Tryz.f128 := ⟨Tryz.func128, by kernel_rfl, by kernel_rfl⟩
theorem ok129 : FOk 129 Tryz.f129 := ⟨Tryz.func129, by kernel_rfl, by kernel_rfl⟩
theorem ok130 : FOk 130 Tryz.f130 := ⟨Tryz.func130, by kernel_rfl, by kernel_rfl⟩
theorem ok131 : FOk 131 Tryz.f131 := ⟨Tryz.func131, by kernel_rfl, by kernel_rfl⟩
theorem ok132 : FOk 132 Tryz.f132 := ⟨Tryz.func132, by kernel_rfl, by kernel_rfl⟩
theorem ok133 : FOk 133 Tryz.f133 := ⟨Tryz.func133, by kernel_rfl, by kernel_rfl⟩
theorem ok134 : FOk 134 Tryz.f134 := ⟨Tryz.func134, by kernel_rfl, by kernel_rfl⟩
theorem ok135 : FOk 135 Tryz.f135 := ⟨Tryz.func135, by kernel_rfl, by kernel_rfl⟩
theorem ok136 : FOk 136 Tryz.f136 := ⟨Tryz.func136, by kernel_rfl, by kernel_rfl⟩
theorem ok137 : FOk 137 Tryz.f137 := ⟨Tryz.func137, by kernel_rfl, by kernel_rfl⟩
theorem ok138 : FOk 138 Tryz.f138 := ⟨Tryz.func138, by kernel_rfl, by kernel_rfl⟩
theorem ok139 : FOk 139 Tryz.f139 := ⟨Tryz.func139, by kernel_rfl, by kernel_rfl⟩
theorem ok140 : FOk 140 Tryz.f140 := ⟨Tryz.func140, by kernel_rfl, by kernel_rfl⟩
theorem ok141 : FOk 141 Tryz.f141 := ⟨Tryz.func141, by kernel_rfl, by kernel_rfl⟩
theorem ok142 : FOk 142 Tryz.f142 := ⟨Tryz.func142, by kernel_rfl, by kernel_rfl⟩
theorem ok143 : FOk 143 Tryz.f143 := ⟨Tryz.func143, by kernel_rfl, by kernel_rfl⟩
theorem ok144 : FOk 144 Tryz.f144 := ⟨Tryz.func144, by kernel_rfl, by kernel_rfl⟩
theorem ok145 : FOk 145 Tryz.f145 := ⟨Tryz.func145, by kernel_rfl, by kernel_rfl⟩
theorem ok146 : FOk 146 Tryz.f146 := ⟨Tryz.func146, by kernel_rfl, by kernel_rfl⟩
theorem ok147 : FOk 147 Tryz.f147 := ⟨Tryz.func147, by kernel_rfl, by kernel_rfl⟩
theorem ok148 : FOk 148 Tryz.f148 := ⟨Tryz.func148, by kernel_rfl, by kernel_rfl⟩
theorem ok149 : FOk 149 Tryz.f149 := ⟨Tryz.func149, by kernel_rfl, by kernel_rfl⟩
theorem ok150 : FOk 150 Tryz.f150 := ⟨Tryz.func150, by kernel_rfl, by kernel_rfl⟩
theorem ok151 : FOk 151 Tryz.f151 := ⟨Tryz.func151, by kernel_rfl, by kernel_rfl⟩
theorem ok152 : FOk 152 Tryz.f152 := ⟨Tryz.func152, by kernel_rfl, by kernel_rfl⟩
theorem ok153 : FOk 153 Tryz.f153 := ⟨Tryz.func153, by kernel_rfl, by kernel_rfl⟩
theorem ok154 : FOk 154 Tryz.f154 := ⟨Tryz.func154, by kernel_rfl, by kernel_rfl⟩
theorem ok155 : FOk 155 Tryz.f155 := ⟨Tryz.func155, by kernel_rfl, by kernel_rfl⟩
theorem ok156 : FOk 156 Tryz.f156 := ⟨Tryz.func156, by kernel_rfl, by kernel_rfl⟩
theorem ok157 : FOk 157 Tryz.f157 := ⟨Tryz.func157, by kernel_rfl, by kernel_rfl⟩
theorem ok158 : FOk 158 Tryz.f158 := ⟨Tryz.func158, by kernel_rfl, by kernel_rfl⟩
theorem ok159 : FOk 159 Tryz.f159 := ⟨Tryz.func159, by kernel_rfl, by kernel_rfl⟩
theorem ok160 : FOk 160 Tryz.f160 := ⟨Tryz.func160, by kernel_rfl, by kernel_rfl⟩
theorem ok161 : FOk 161 Tryz.f161 := ⟨Tryz.func161, by kernel_rfl, by kernel_rfl⟩
theorem ok162 : FOk 162 Tryz.f162 := ⟨Tryz.func162, by kernel_rfl, by kernel_rfl⟩
theorem ok163 : FOk 163 Tryz.f163 := ⟨Tryz.func163, by kernel_rfl, by kernel_rfl⟩
theorem ok164 : FOk 164 Tryz.f164 := ⟨Tryz.func164, by kernel_rfl, by kernel_rfl⟩
theorem ok165 : FOk 165 Tryz.f165 := ⟨Tryz.func165, by kernel_rfl, by kernel_rfl⟩
theorem ok166 : FOk 166 Tryz.f166 := ⟨Tryz.func166, by kernel_rfl, by kernel_rfl⟩
theorem ok167 : FOk 167 Tryz.f167 := ⟨Tryz.func167, by kernel_rfl, by kernel_rfl⟩
theorem ok168 : FOk 168 Tryz.f168 := ⟨Tryz.func168, by kernel_rfl, by kernel_rfl⟩
theorem ok169 : FOk 169 Tryz.f169 := ⟨Tryz.func169, by kernel_rfl, by kernel_rfl⟩
theorem ok170 : FOk 170 Tryz.f170 := ⟨Tryz.func170, by kernel_rfl, by kernel_rfl⟩
theorem ok171 : FOk 171 Tryz.f171 := ⟨Tryz.func171, by kernel_rfl, by kernel_rfl⟩
theorem ok172 : FOk 172 Tryz.f172 := ⟨Tryz.func172, by kernel_rfl, by kernel_rfl⟩
theorem ok173 : FOk 173 Tryz.f173 := ⟨Tryz.func173, by kernel_rfl, by kernel_rfl⟩
theorem ok174 : FOk 174 Tryz.f174 := ⟨Tryz.func174, by kernel_rfl, by kernel_rfl⟩
theorem ok175 : FOk 175 Tryz.f175 := ⟨Tryz.func175, by kernel_rfl, by kernel_rfl⟩
noncomputable def funT : T Func := (.node none (.node none (.node (some Tryz.f3) (.node (some Tryz.f7) (.node (some Tryz.f15) (.node (some Tryz.f31) (.node (some Tryz.f63) (.node (some Tryz.f127) .nil .nil) .nil) (.node (some Tryz.f95) (.node (some Tryz.f159) .nil .nil) .nil)) (.node (some Tryz.f47) (.node (some Tryz.f79) (.node (some Tryz.f143) .nil .nil) .nil) (.node (some Tryz.f111) (.node (some Tryz.f175) .nil .nil) .nil))) (.node (some Tryz.f23) (.node (some Tryz.f39) (.node (some Tryz.f71) (.node (some Tryz.f135) .nil .nil) .nil) (.node (some Tryz.f103) (.node (some Tryz.f167) .nil .nil) .nil)) (.node (some Tryz.f55) (.node (some Tryz.f87) (.node (some Tryz.f151) .nil .nil) .nil) (.node (some Tryz.f119) .nil .nil)))) (.node (some Tryz.f11) (.node (some Tryz.f19) (.node (some Tryz.f35) (.node (some Tryz.f67) (.node (some Tryz.f131) .nil .nil) .nil) (.node (some Tryz.f99) (.node (some Tryz.f163) .nil .nil) .nil)) (.node (some Tryz.f51) (.node (some Tryz.f83) (.node (some Tryz.f147) .nil .nil) .nil) (.node (some Tryz.f115) .nil .nil))) (.node (some Tryz.f27) (.node (some Tryz.f43) (.node (some Tryz.f75) (.node (some Tryz.f139) .nil .nil) .nil) (.node (some Tryz.f107) (.node (some Tryz.f171) .nil .nil) .nil)) (.node (some Tryz.f59) (.node (some Tryz.f91) (.node (some Tryz.f155) .nil .nil) .nil) (.node (some Tryz.f123) .nil .nil))))) (.node (some Tryz.f5) (.node (some Tryz.f9) (.node (some Tryz.f17) (.node (some Tryz.f33) (.node (some Tryz.f65) (.node (some Tryz.f129) .nil .nil) .nil) (.node (some Tryz.f97) (.node (some Tryz.f161) .nil .nil) .nil)) (.node (some Tryz.f49) (.node (some Tryz.f81) (.node (some Tryz.f145) .nil .nil) .nil) (.node (some Tryz.f113) .nil .nil))) (.node (some Tryz.f25) (.node (some Tryz.f41) (.node (some Tryz.f73) (.node (some Tryz.f137) .nil .nil) .nil) (.node (some Tryz.f105) (.node (some Tryz.f169) .nil .nil) .nil)) (.node (some Tryz.f57) (.node (some Tryz.f89) (.node (some Tryz.f153) .nil .nil) .nil) (.node (some Tryz.f121) .nil .nil)))) (.node (some Tryz.f13) (.node (some Tryz.f21) (.node (some Tryz.f37) (.node (some Tryz.f69) (.node (some Tryz.f133) .nil .nil) .nil) (.node (some Tryz.f101) (.node (some Tryz.f165) .nil .nil) .nil)) (.node (some Tryz.f53) (.node (some Tryz.f85) (.node (some Tryz.f149) .nil .nil) .nil) (.node (some Tryz.f117) .nil .nil))) (.node (some Tryz.f29) (.node (some Tryz.f45) (.node (some Tryz.f77) (.node (some Tryz.f141) .nil .nil) .nil) (.node (some Tryz.f109) (.node (some Tryz.f173) .nil .nil) .nil)) (.node (some Tryz.f61) (.node none (.node (some Tryz.f157) .nil .nil) .nil) (.node (some Tryz.f125) .nil .nil)))))) (.node (some Tryz.f2) (.node (some Tryz.f4) (.node (some Tryz.f8) (.node (some Tryz.f16) (.node (some Tryz.f32) (.node (some Tryz.f64) (.node (some Tryz.f128) .nil .nil) .nil) (.node (some Tryz.f96) (.node (some Tryz.f160) .nil .nil) .nil)) (.node (some Tryz.f48) (.node (some Tryz.f80) (.node (some Tryz.f144) .nil .nil) .nil) (.node (some Tryz.f112) .nil .nil))) (.node (some Tryz.f24) (.node (some Tryz.f40) (.node (some Tryz.f72) (.node (some Tryz.f136) .nil .nil) .nil) (.node (some Tryz.f104) (.node (some Tryz.f168) .nil .nil) .nil)) (.node (some Tryz.f56) (.node (some Tryz.f88) (.node (some Tryz.f152) .nil .nil) .nil) (.node (some Tryz.f120) .nil .nil)))) (.node (some Tryz.f12) (.node (some Tryz.f20) (.node (some Tryz.f36) (.node (some Tryz.f68) (.node (some Tryz.f132) .nil .nil) .nil) (.node (some Tryz.f100) (.node (some Tryz.f164) .nil .nil) .nil)) (.node (some Tryz.f52) (.node none (.node (some Tryz.f148) .nil .nil) .nil) (.node (some Tryz.f116) .nil .nil))) (.node (some Tryz.f28) (.node (some Tryz.f44) (.node (some Tryz.f76) (.node (some Tryz.f140) .nil .nil) .nil) (.node (some Tryz.f108) (.node (some Tryz.f172) .nil .nil) .nil)) (.node (some Tryz.f60) (.node (some Tryz.f92) (.node (some Tryz.f156) .nil .nil) .nil) (.node (some Tryz.f124) .nil .nil))))) (.node (some Tryz.f6) (.node (some Tryz.f10) (.node (some Tryz.f18) (.node (some Tryz.f34) (.node (some Tryz.f66) (.node (some Tryz.f130) .nil .nil) .nil) (.node (some Tryz.f98) (.node (some Tryz.f162) .nil .nil) .nil)) (.node (some Tryz.f50) (.node (some Tryz.f82) (.node (some Tryz.f146) .nil .nil) .nil) (.node (some Tryz.f114) .nil .nil))) (.node (some Tryz.f26) (.node (some Tryz.f42) (.node (some Tryz.f74) (.node (some Tryz.f138) .nil .nil) .nil) (.node (some Tryz.f106) (.node (some Tryz.f170) .nil .nil) .nil)) (.node (some Tryz.f58) (.node (some Tryz.f90) (.node (some Tryz.f154) .nil .nil) .nil) (.node (some Tryz.f122) .nil .nil)))) (.node (some Tryz.f14) (.node (some Tryz.f22) (.node (some Tryz.f38) (.node (some Tryz.f70) (.node (some Tryz.f134) .nil .nil) .nil) (.node (some Tryz.f102) (.node (some Tryz.f166) .nil .nil) .nil)) (.node (some Tryz.f54) (.node none (.node (some Tryz.f150) .nil .nil) .nil) (.node (some Tryz.f118) .nil .nil))) (.node (some Tryz.f30) (.node (some Tryz.f46) (.node (some Tryz.f78) (.node (some Tryz.f142) .nil .nil) .nil) (.node (some Tryz.f110) (.node (some Tryz.f174) .nil .nil) .nil)) (.node (some Tryz.f62) (.node (some Tryz.f94) (.node (some Tryz.f158) .nil .nil) .nil) (.node (some Tryz.f126) .nil .nil)))))))
theorem funT_all : T.All FOk funT := (T.all_node fno (T.all_node fno (T.all_node (fok ok3) (T.all_node (fok ok7) (T.all_node (fok ok15) (T.all_node (fok ok31) (T.all_node (fok ok63) (T.all_node (fok ok127) T.all_nil T.all_nil) T.all_nil) (T.all_node (fok ok95) (T.all_node (fok ok159) T.all_nil T.all_nil) T.all_nil)) (T.all_node (fok ok47) (T.all_node (fok ok79) (T.all_node (fok ok143) T.all_nil T.all_nil) T.all_nil) (T.all_node (fok ok111) (T.all_node (fok ok175) T.all_nil T.all_nil) T.all_nil))) (T.all_node (fok ok23) (T.all_node (fok ok39) (T.all_node (fok ok71) (T.all_node (fok ok135) T.all_nil T.all_nil) T.all_nil) (T.all_node (fok ok103) (T.all_node (fok ok167) T.all_nil T.all_nil) T.all_nil)) (T.all_node (fok ok55) (T.all_node (fok ok87) (T.all_node (fok ok151) T.all_nil T.all_nil) T.all_nil) (T.all_node (fok ok119) T.all_nil T.all_nil)))) (T.all_node (fok ok11) (T.all_node (fok ok19) (T.all_node (fok ok35) (T.all_node (fok ok67) (T.all_node (fok ok131) T.all_nil T.all_nil) T.all_nil) (T.all_node (fok ok99) (T.all_node (fok ok163) T.all_nil T.all_nil) T.all_nil)) (T.all_node (fok ok51) (T.all_node (fok ok83) (T.all_node (fok ok147) T.all_nil T.all_nil) T.all_nil) (T.all_node (fok ok115) T.all_nil T.all_nil))) (T.all_node (fok ok27) (T.all_node (fok ok43) (T.all_node (fok ok75) (T.all_node (fok ok139) T.all_nil T.all_nil) T.all_nil) (T.all_node (fok ok107) (T.all_node (fok ok171) T.all_nil T.all_nil) T.all_nil)) (T.all_node (fok ok59) (T.all_node (fok ok91) (T.all_node (fok ok155) T.all_nil T.all_nil) T.all_nil) (T.all_node (fok ok123) T.all_nil T.all_nil))))) (T.all_node (fok ok5) (T.all_node (fok ok9) (T.all_node (fok ok17) (T.all_node (fok ok33) (T.all_node (fok ok65) (T.all_node (fok ok129) T.all_nil T.all_nil) T.all_nil) (T.all_node (fok ok97) (T.all_node (fok ok161) T.all_nil T.all_nil) T.all_nil)) (T.all_node (fok ok49) (T.all_node (fok ok81) (T.all_node (fok ok145) T.all_nil T.all_nil) T.all_nil) (T.all_node (fok ok113) T.all_nil T.all_nil))) (T.all_node (fok ok25) (T.all_node (fok ok41) (T.all_node (fok ok73) (T.all_node (fok ok137) T.all_nil T.all_nil) T.all_nil) (T.all_node (fok ok105) (T.all_node (fok ok169) T.all_nil T.all_nil) T.all_nil)) (T.all_node (fok ok57) (T.all_node (fok ok89) (T.all_node (fok ok153) T.all_nil T.all_nil) T.all_nil) (T.all_node (fok ok121) T.all_nil T.all_nil)))) (T.all_node (fok ok13) (T.all_node (fok ok21) (T.all_node (fok ok37) (T.all_node (fok ok69) (T.all_node (fok ok133) T.all_nil T.all_nil) T.all_nil) (T.all_node (fok ok101) (T.all_node (fok ok165) T.all_nil T.all_nil) T.all_nil)) (T.all_node (fok ok53) (T.all_node (fok ok85) (T.all_node (fok ok149) T.all_nil T.all_nil) T.all_nil) (T.all_node (fok ok117) T.all_nil T.all_nil))) (T.all_node (fok ok29) (T.all_node (fok ok45) (T.all_node (fok ok77) (T.all_node (fok ok141) T.all_nil T.all_nil) T.all_nil) (T.all_node (fok ok109) (T.all_node (fok ok173) T.all_nil T.all_nil) T.all_nil)) (T.all_node (fok ok61) (T.all_node fno (T.all_node (fok ok157) T.all_nil T.all_nil) T.all_nil) (T.all_node (fok ok125) T.all_nil T.all_nil)))))) (T.all_node (fok ok2) (T.all_node (fok ok4) (T.all_node (fok ok8) (T.all_node (fok ok16) (T.all_node (fok ok32) (T.all_node (fok ok64) (T.all_node (fok ok128) T.all_nil T.all_nil) T.all_nil) (T.all_node (fok ok96) (T.all_node (fok ok160) T.all_nil T.all_nil) T.all_nil)) (T.all_node (fok ok48) (T.all_node (fok ok80) (T.all_node (fok ok144) T.all_nil T.all_nil) T.all_nil) (T.all_node (fok ok112) T.all_nil T.all_nil))) (T.all_node (fok ok24) (T.all_node (fok ok40) (T.all_node (fok ok72) (T.all_node (fok ok136) T.all_nil T.all_nil) T.all_nil) (T.all_node (fok ok104) (T.all_node (fok ok168) T.all_nil T.all_nil) T.all_nil)) (T.all_node (fok ok56) (T.all_node (fok ok88) (T.all_node (fok ok152) T.all_nil T.all_nil) T.all_nil) (T.all_node (fok ok120) T.all_nil T.all_nil)))) (T.all_node (fok ok12) (T.all_node (fok ok20) (T.all_node (fok ok36) (T.all_node (fok ok68) (T.all_node (fok ok132) T.all_nil T.all_nil) T.all_nil) (T.all_node (fok ok100) (T.all_node (fok ok164) T.all_nil T.all_nil) T.all_nil)) (T.all_node (fok ok52) (T.all_node fno (T.all_node (fok ok148) T.all_nil T.all_nil) T.all_nil) (T.all_node (fok ok116) T.all_nil T.all_nil))) (T.all_node (fok ok28) (T.all_node (fok ok44) (T.all_node (fok ok76) (T.all_node (fok ok140) T.all_nil T.all_nil) T.all_nil) (T.all_node (fok ok108) (T.all_node (fok ok172) T.all_nil T.all_nil) T.all_nil)) (T.all_node (fok ok60) (T.all_node (fok ok92) (T.all_node (fok ok156) T.all_nil T.all_nil) T.all_nil) (T.all_node (fok ok124) T.all_nil T.all_nil))))) (T.all_node (fok ok6) (T.all_node (fok ok10) (T.all_node (fok ok18) (T.all_node (fok ok34) (T.all_node (fok ok66) (T.all_node (fok ok130) T.all_nil T.all_nil) T.all_nil) (T.all_node (fok ok98) (T.all_node (fok ok162) T.all_nil T.all_nil) T.all_nil)) (T.all_node (fok ok50) (T.all_node (fok ok82) (T.all_node (fok ok146) T.all_nil T.all_nil) T.all_nil) (T.all_node (fok ok114) T.all_nil T.all_nil))) (T.all_node (fok ok26) (T.all_node (fok ok42) (T.all_node (fok ok74) (T.all_node (fok ok138) T.all_nil T.all_nil) T.all_nil) (T.all_node (fok ok106) (T.all_node (fok ok170) T.all_nil T.all_nil) T.all_nil)) (T.all_node (fok ok58) (T.all_node (fok ok90) (T.all_node (fok ok154) T.all_nil T.all_nil) T.all_nil) (T.all_node (fok ok122) T.all_nil T.all_nil)))) (T.all_node (fok ok14) (T.all_node (fok ok22) (T.all_node (fok ok38) (T.all_node (fok ok70) (T.all_node (fok ok134) T.all_nil T.all_nil) T.all_nil) (T.all_node (fok ok102) (T.all_node (fok ok166) T.all_nil T.all_nil) T.all_nil)) (T.all_node (fok ok54) (T.all_node fno (T.all_node (fok ok150) T.all_nil T.all_nil) T.all_nil) (T.all_node (fok ok118) T.all_nil T.all_nil))) (T.all_node (fok ok30) (T.all_node (fok ok46) (T.all_node (fok ok78) (T.all_node (fok ok142) T.all_nil T.all_nil) T.all_nil) (T.all_node (fok ok110) (T.all_node (fok ok174) T.all_nil T.all_nil) T.all_nil)) (T.all_node (fok ok62) (T.all_node (fok ok94) (T.all_node (fok ok158) T.all_nil T.all_nil) T.all_nil) (T.all_node (fok ok126) T.all_nil T.all_nil)))))))
end Go.Proofs.YtcnimekhpnejlaaGreat.Ev

/- The evaluator: the types' table; the ways of an open evaluation. -/
namespace Go.Proofs.YtcnimekhpnejlaaGreat.Ev
open Go Go.RowKit
set_option linter.unusedVariables false
def teOf (P : Program) (t : TypeId) : Option TE :=
  match P.underlying t, P.info? t with
  | some u, some i =>
    match i.zero with
    | some z => some ⟨u, i.size, i.bytes, z, P.eqGuardType P.depth t, P.stoodInHeld t⟩
    | none => none
  | _, _ => none
theorem teOf_ok {P : Program} {t : TypeId} {e : TE} (h : teOf P t = some e) : TEok P t e := by
  unfold teOf at h
  split at h
  · rename_i u i hu hi
    split at h
    · rename_i z hz
      obtain rfl := Option.some.inj h
      unfold TEok
      rw [hu, hi]
      simp [hz]
    · cases h
  · cases h
theorem funs_ok {C : Ctx} (hP : C.P = Tryz.prog) : FunOk C funT.get := fun g fn h => by
  rw [hP]
  exact funT_all g fn h
theorem mixed : Tryz.prog.follows .mixedOrders = true := by kernel_rfl

/-! ### Ways -/
/-- What was asked, and how it goes on; dead: a way that is not gone. -/
inductive PT where
  | leaf
  | dead
  | node (q : X) (t f : PT)
def ways {β : Type} (run : List (X × Bool) → Option β) : PT → List (X × Bool) → Option (List (List (X × Bool) × Option β))
  | .leaf, pc => (run pc).map fun r => [(pc, some r)]
  | .dead, pc => some [(pc, none)]
  | .node q t f, pc => (ways run t ((q, true) :: pc)).bind fun a => (ways run f ((q, false) :: pc)).map fun b => a ++ b
def Told (ρ : Rho) (pc : List (X × Bool)) : Prop := ∀ q ∈ pc, q.1.bool ρ = q.2
theorem Told.nil {ρ : Rho} : Told ρ [] := fun _ h => by cases h
theorem Told.cons {ρ : Rho} {q : X} {b : Bool} {pc : List (X × Bool)} (h : q.bool ρ = b) (ht : Told ρ pc) : Told ρ ((q, b) :: pc) := fun x hx => by
  rcases List.mem_cons.1 hx with rfl | hx
  · exact h
  · exact ht x hx
theorem ways_ok {β : Type} {run : List (X × Bool) → Option β} {ρ : Rho} : ∀ {t : PT} {pc : List (X × Bool)} {l : List (List (X × Bool) × Option β)}, ways run t pc = some l → Told ρ pc → ∃ x ∈ l, (∀ r, x.2 = some r → run x.1 = some r) ∧ Told ρ x.1
  | .leaf, pc, l, h, hp => by
    obtain ⟨r, hr, rfl⟩ := Option.map_eq_some_iff.1 h
    exact ⟨(pc, some r), by simp, fun r' h' => by rw [hr]; exact h', hp⟩
  | .dead, pc, l, h, hp => by
    obtain rfl := Option.some.inj h
    exact ⟨(pc, none), by simp, (fun r' h' => by cases h'), hp⟩
  | .node q t f, pc, l, h, hp => by
    obtain ⟨a, ha, h⟩ := Option.bind_eq_some_iff.1 h
    obtain ⟨b, hb, rfl⟩ := Option.map_eq_some_iff.1 h
    cases hq : q.bool ρ with
    | true =>
      obtain ⟨x, hx, h2⟩ := ways_ok ha (.cons hq hp)
      exact ⟨x, List.mem_append_left _ hx, h2⟩
    | false =>
      obtain ⟨x, hx, h2⟩ := ways_ok hb (.cons hq hp)
      exact ⟨x, List.mem_append_right _ hx, h2⟩

/-- What is seen of a block. -/
inductive BV where
  | cells (t : TypeId) (l : List SV)
  | opq (e : X) (ls : List (X × Nat))
  | abs (e : X)
  | empty
  | other
  deriving DecidableEq
def Blk.view : Blk → BV
  | .cells t none c false => .cells t (c.list 0 c.n)
  | .opq e ls => .opq e ls
  | .abs e => .abs e
  | .mp [] 0 => .empty
  | _ => .other
def view (ids : List Nat) (r : Res) : EV × List (Option BV) := (r.1, ids.map fun i => (r.2.1.get i).map Blk.view)

/-- Rules that answer by what is told of the way. -/
structure Rules where
  olk : List (X × Bool) → TypeId → X → List (X × Nat) → SV → Option EV
  oup : List (X × Bool) → TypeId → X → List (X × Nat) → SV → EV → Option (X × List (X × Nat))
noncomputable def ctx (R : Rules) (ρ : Rho) (pc : List (X × Bool)) : Ctx := ⟨Tryz.prog, teOf Tryz.prog, pc, R.olk pc, R.oup pc, ρ⟩
def Rules.Ok (R : Rules) (ρ : Rho) : Prop := ∀ pc, Told ρ pc → (ctx R ρ pc).Ok

/-- What a call that was evaluated comes to. -/
def Came (P : Program) (g : Nat) (vs : Array Value) (E : Env) (h : T Blk) (nx : Nat) (w : World) (ids : List Nat) (r : EV × List (Option BV)) : Prop :=
  Calls P g vs w fun en w' => ∃ v E' h' nx', en = .returned v ∧ Goes E h nx w E' h' nx' w' ∧ r.1.rel E' v ∧ r.2 = ids.map fun i => (h'.get i).map Blk.view
/-- A call, evaluated on all ways. -/
theorem ways_calls {R : Rules} {ρ : Rho} (hR : R.Ok ρ) {sum : List (X × Bool) → Call} (hsum : ∀ pc, Told ρ pc → CallOk (ctx R ρ pc) (sum pc)) {F K g : Nat} {args : List EV} {h : T Blk} {nx : Nat} {t : PT} {ids : List Nat} {l : List (List (X × Bool) × Option (EV × List (Option BV)))}
    (hev : ways (fun pc => (evCall (ctx R ρ pc) funT.get (sum pc) F K g args h nx).map (view ids)) t [] = some l) {E : Env} {w : World} {vs : List Value} (hr : HRel E h w) (hρ : E.ρ = ρ) (hf : FreshU E nx) (hrel : Rels (EV.rel E) args vs) :
    ∃ x ∈ l, Told ρ x.1 ∧ ∀ r, x.2 = some r → Came Tryz.prog g vs.toArray E h nx w ids r := by
  obtain ⟨x, hx, hrun, ht⟩ := ways_ok hev (ρ := ρ) Told.nil
  refine ⟨x, hx, ht, fun q hq => ?_⟩
  obtain ⟨r, hr1, hr2⟩ := Option.map_eq_some_iff.1 (hrun q hq)
  have hok := evCall_ok (hR x.1 ht) (show (ctx R ρ x.1).P.follows .mixedOrders = true from mixed) (funs_ok (C := ctx R ρ x.1) rfl) (hsum x.1 ht) (F := F) K
  refine (hok g args h nx r hr1 E w vs hr hρ hf hrel).mono fun en w' ⟨v, E', he, hg, hv⟩ => ?_
  refine ⟨v, E', r.2.1, r.2.2, he, hg, ?_, ?_⟩
  · rw [← hr2]
    exact hv
  · rw [← hr2]
    rfl
end Go.Proofs.YtcnimekhpnejlaaGreat.Ev

/- The rules of opaque maps hold. -/
namespace Go.Proofs.YtcnimekhpnejlaaGreat.Ev
open Go Go.RowKit
set_option linter.unusedVariables false
set_option linter.unusedSimpArgs false
set_option maxRecDepth 10000

def pad (b : ByteArray) : List UInt8 := (List.range 256).map fun j => b.data.getD j 0
theorem pad_length (b : ByteArray) : (pad b).length = 256 := by simp [pad]
theorem pad_of {l : List UInt8} (h : l.length = 256) : pad ⟨l.toArray⟩ = l := by
  apply List.ext_getElem?
  intro i
  unfold pad
  by_cases hi : i < 256
  · rw [List.getElem?_map, List.getElem?_range hi]
    simp [Array.getD, h, hi]
  · rw [List.getElem?_eq_none (by simp; omega), List.getElem?_eq_none (by omega)]

theorem Rels.mapped {α β γ : Type} {R : α → β → Prop} {f : γ → α} {g : γ → β} : ∀ (l : List γ), (∀ x ∈ l, R (f x) (g x)) → Rels R (l.map f) (l.map g)
  | [], _ => trivial
  | x :: l, h => ⟨h x (by simp), Rels.mapped l fun y hy => h y (by simp [hy])⟩
theorem Rels.mapped_eq {α β γ : Type} {R : α → β → Prop} {f : γ → α} {g : γ → β} : ∀ {l : List γ} {vs : List β}, (∀ x ∈ l, ∀ v, R (f x) v → v = g x) → Rels R (l.map f) vs → vs = l.map g
  | [], [], _, _ => rfl
  | x :: l, v :: vs, h, hr => by
    rw [List.map_cons, h x (by simp) v hr.1, Rels.mapped_eq (fun y hy => h y (by simp [hy])) hr.2]
  | [], _ :: _, _, hr => hr.elim
  | _ :: _, [], _, hr => hr.elim

theorem blkX_rel {E : Env} (e : X) : (AV.agg (blkX e)).rel E (elBlk.val (pad (e.str E.ρ))) := by
  refine ⟨(pad (e.str E.ρ)).map byteV, rfl, ?_⟩
  unfold blkX pad
  rw [List.map_map]
  exact Rels.mapped _ fun j hj => rfl
theorem blkX_inv {E : Env} {e : X} {v : Value} (h : (AV.agg (blkX e)).rel E v) : v = elBlk.val (pad (e.str E.ρ)) := by
  obtain ⟨vs, rfl, hr⟩ := h
  have : vs = (pad (e.str E.ρ)).map byteV := by
    unfold pad
    rw [List.map_map]
    exact Rels.mapped_eq (fun j hj v hv => hv) hr
  rw [this]
  rfl
theorem blk0_inv {E : Env} {v : Value} (h : (AV.agg blk0).rel E v) : v = elBlk.val (zeros 256) := by
  obtain ⟨vs, rfl, hr⟩ := h
  have e1 : blk0 = (List.range 256).map fun _ => SV.int .u8 0 := by decide +kernel
  rw [e1] at hr
  have : vs = (List.range 256).map fun _ => Value.int .u8 0 := Rels.mapped_eq (fun j hj v hv => hv) hr
  rw [this]
  have e2 : ((List.range 256).map fun _ => Value.int .u8 0) = (zeros 256).map byteV := by
    unfold zeros
    rw [List.map_replicate]
    apply List.ext_getElem?
    intro i
    rw [List.getElem?_map, List.getElem?_replicate]
    by_cases hi : i < 256
    · rw [List.getElem?_range hi, if_pos hi]; rfl
    · rw [List.getElem?_eq_none (by simp; omega), if_neg hi]; rfl
  rw [e2]
  rfl
theorem blk0_rel {E : Env} : (AV.agg blk0).rel E (elBlk.val (zeros 256)) := by
  refine ⟨(zeros 256).map byteV, rfl, ?_⟩
  have e1 : blk0 = (zeros 256).map fun _ => SV.int .u8 0 := by decide +kernel
  rw [e1]
  exact Rels.mapped _ fun x hx => by
    obtain rfl := (List.mem_replicate.1 hx).2
    rfl
theorem asBlk_inv {E : Env} {l : List SV} {e : X} (h : asBlk l = some e) {v : Value} (hv : (AV.agg l).rel E v) : v = elBlk.val (pad (e.str E.ρ)) := by
  unfold asBlk at h
  split at h
  · split at h
    · rename_i hl
      obtain rfl := Option.some.inj h
      rw [hl] at hv
      exact blkX_inv hv
    · cases h
  · split at h
    · rename_i hl
      obtain rfl := Option.some.inj h
      rw [hl] at hv
      rw [blk0_inv hv]
      show elBlk.val (zeros 256) = elBlk.val (pad zeroB)
      have : pad zeroB = zeros 256 := pad_of (List.length_replicate)
      rw [this]
    · cases h
  · cases h

theorem linksOf_skip {E : Env} {k : X} {i : Nat} {ls : List (X × Nat)} {n : Int} (h : k.int E.ρ ≠ n) : linksOf E ((k, i) :: ls) n = linksOf E ls n := by
  unfold linksOf
  rw [List.find?_cons_of_neg (by simpa using h)]
theorem linksOf_hit {E : Env} {k : X} {i : Nat} {ls : List (X × Nat)} {p : Pl} {n : Int} (hp : E.m i = some p) (hn : k.int E.ρ = n) : linksOf E ((k, i) :: ls) n = some p.blk := by
  unfold linksOf
  rw [List.find?_cons_of_pos (by simpa using hn)]
  show (E.m i).map _ = _
  rw [hp]
  rfl
theorem linksOf_mark {E : Env} (j : Nat) {ls : List (X × Nat)} {p : Pl} (hp : E.m j = some p) : linksOf E ((.li 0, j) :: ls) 0 = some p.blk := linksOf_hit (k := .li 0) hp rfl
theorem linksOf_nil {E : Env} {n : Int} : linksOf E [] n = none := rfl
/-- What the letters and functions are, at the least. -/
structure Base (ρ : Rho) : Prop where
  oq : ρ.oq = oqD Tryz.prog
  A : ρ.A = absD Tryz.prog
  hasL : ∀ f d, ρ.f 900 (.p (.st (.leaves f)) d) = .b (f d.int).isSome
  hasW : ∀ f d, ρ.f 900 (.p (.st (.works f)) d) = .b (f d.int).isSome
  rng : ∀ d, ρ.f 902 d = .b (decide (-9223372036854775808 ≤ d.int ∧ d.int ≤ 9223372036854775807))
  leaf : ∀ f d, ρ.f 20 (.p (.st (.leaves f)) d) = .s ⟨((f d.int).getD (zeros 256)).toArray⟩
  set : ∀ f d b, ρ.f 21 (.p (.st (.leaves f)) (.p d b)) = .st (.leaves (upd f d.int (pad b.str)))

theorem inI64_ok {ρ : Rho} (hB : Base ρ) {pc : List (X × Bool)} (hpc : Told ρ pc) {e : X} (h : inI64 pc e = true) : i64 (e.int ρ) := by
  unfold inI64 at h
  unfold i64
  split at h
  · exact of_decide_eq_true h
  · have h1 := truL_ok hpc (of_decide_eq_true h)
    have h2 : (ρ.f 902 (e.val ρ)).bool = true := h1
    rw [hB.rng] at h2
    exact of_decide_eq_true h2

theorem und_int : Tryz.prog.underlying 3 = some (.int .i64) := by kernel_rfl
theorem und_leaves : Tryz.prog.underlying 157 = some (.map 3 116) := by kernel_rfl
theorem und_works : Tryz.prog.underlying 105 = some (.map 3 95) := by kernel_rfl
theorem te_blk : (teOf Tryz.prog 116).map (·.zero) = some (elBlk.val (zeros 256)) := by kernel_rfl
theorem te_work : (teOf Tryz.prog 95).map (·.zero) = some (.pointer none) := by kernel_rfl
theorem zero_blk (w : World) : (zeroValue 116).run Tryz.prog w = .ok (elBlk.val (zeros 256)) w := by
  obtain ⟨e, he, hz⟩ := Option.map_eq_some_iff.1 te_blk
  rw [(teOf_ok he).run_zero w, hz]
theorem zero_work (w : World) : (zeroValue 95).run Tryz.prog w = .ok (.pointer none) w := by
  obtain ⟨e, he, hz⟩ := Option.map_eq_some_iff.1 te_work
  rw [(teOf_ok he).run_zero w, hz]
theorem touch_of {w w' : World} {b : Nat} (h : w.grownBy w' (some b)) (hs : w'.heap.size = w.heap.size) : Touch b w w' := ⟨h.os, h.tape, h.output, hs, fun k hk => by
  by_cases hl : k < w.heap.size
  · exact h.block k hl (fun e => hk (Option.some.inj e))
  · rw [Array.getElem?_eq_none (by omega), Array.getElem?_eq_none (by omega)]⟩
/-- A map that reads so in one world reads so in all worlds with the block. -/
theorem MapI.any {α : Type} {El : Elem α} {P : Program} {k : TypeId} {w : World} {b N : Nat} {f : Int → Option α} (h : MapI El P k w b N f) {o : Obj} (ho : w.heap[b]? = some o) : ∀ (w' : World) (b' : Nat), w'.heap[b']? = some o → MapI El P k w' b' N f := fun w' b' ho' => by
  obtain ⟨D, ⟨es, clock, hb, r⟩, r2⟩ := h
  refine ⟨D, ⟨es, clock, ?_, r⟩, r2⟩
  rw [ho', ← hb, ho]

def rules : Rules := ⟨rOlk, rOup⟩
theorem rules_ok {ρ : Rho} (hB : Base ρ) : rules.Ok ρ := fun pc hpc => {
  tab := fun t e h => teOf_ok h
  pc := hpc
  olk := fun t e ls y r h E o w b v hρ hl hoq ho hy => by
    replace h : rOlk pc t e ls y = some r := h
    replace hρ : E.ρ = ρ := hρ
    replace hoq : ρ.oq (e.val ρ) (linksOf E ls) o := hoq
    rw [hB.oq] at hoq
    unfold rOlk at h
    replace h := Option.bind_eq_some_iff.1 h
    obtain ⟨⟨k, q⟩, hq, h⟩ := h
    have hv : v = .int k (q.int ρ) := by rw [← hρ]; exact asI_rel hq hy
    simp only at h
    split at h
    · rename_i hk
      subst hk
      split at h
      · rename_i ht
        subst ht
        split at h
        · split at h
          · rename_i hr
            obtain ⟨c, hc, rfl⟩ := Option.map_eq_some_iff.1 h
            have hin := inI64_ok hB hpc hr
            have hc2 : (ρ.f 900 (.p (e.val ρ) (q.val ρ))).bool = c := truL_ok hpc hc
            unfold oqD at hoq
            split at hoq
            · exact absurd hoq.1 (by simp [linksOf])
            · rename_i f he
              obtain ⟨hm, _⟩ := hoq.2 w b ho
              rw [he, hB.hasL] at hc2
              have hc2 : (f (q.int ρ)).isSome = c := hc2
              subst hv
              cases c with
              | true =>
                obtain ⟨a, ha⟩ := Option.isSome_iff_exists.1 hc2
                refine ⟨_, hm.look und_int und_leaves ha (zero_blk w) (by simp [elBlk, zeros]), _, rfl, ?_, rfl, trivial⟩
                have hlen : a.length = 256 := by
                  obtain ⟨D, _, _, _, h3⟩ := hm
                  exact (h3 _ a ha).2.1
                have e3 : pad (X.str E.ρ (.app 20 (.cons e q))) = a := by
                  have : X.str E.ρ (.app 20 (.cons e q)) = ⟨((f (q.int ρ)).getD (zeros 256)).toArray⟩ := by
                    show (E.ρ.f 20 (.p (e.val E.ρ) (q.val E.ρ))).str = _
                    rw [hρ, he, hB.leaf]
                    rfl
                  rw [this, ha]
                  exact pad_of hlen
                have := blkX_rel (E := E) (.app 20 (.cons e q))
                rw [e3] at this
                exact this
              | false =>
                have ha : f (q.int ρ) = none := by simpa using hc2
                exact ⟨_, hm.look_none und_int und_leaves hin ha (zero_blk w), _, rfl, blk0_rel, rfl, trivial⟩
            · exact hoq.elim
          · cases h
        · cases h
      · split at h
        · rename_i ht
          subst ht
          split at h
          · rename_i j
            split at h
            · rename_i hr
              obtain rfl := Option.some.inj h
              have hin := inI64_ok hB hpc hr.1
              have hc2 : (ρ.f 900 (.p (e.val ρ) (q.val ρ))).bool = false := truL_ok hpc hr.2
              unfold oqD at hoq
              split at hoq
              · rename_i f he
                obtain ⟨hm, _⟩ := hoq.2 w b ho
                rw [he, hB.hasW] at hc2
                have hc2 : f (q.int ρ) = none := Option.not_isSome_iff_eq_none.1 (by
                  have h5 : (f (q.int ρ)).isSome = false := hc2
                  rw [h5]
                  exact Bool.false_ne_true)
                subst hv
                refine ⟨_, hm.look_none und_int und_works hin ?_ (zero_work w), _, rfl, rfl, rfl, trivial⟩
                show (if q.int ρ = 0 then none else _) = _
                split
                · rfl
                · rename_i hne
                  rw [hc2, Option.or_none]
                  rw [linksOf_skip (fun e => hne e.symm), linksOf_nil]
              · exact absurd hoq.1 (by
                  obtain ⟨p, hp, _⟩ := hl _ (List.mem_singleton.2 rfl)
                  rw [linksOf_mark j hp]
                  exact Option.some_ne_none _)
              · exact hoq.elim
            · cases h
          · rename_i k i j
            split at h
            · rename_i hr
              obtain ⟨rfl, hr⟩ := hr
              obtain rfl := Option.some.inj h
              have hne : (k.int ρ == 0) = false := truL_ok hpc hr
              have hne : k.int ρ ≠ 0 := by simpa using hne
              obtain ⟨p, hp, hd⟩ := hl (k, i) (by simp)
              unfold oqD at hoq
              split at hoq
              · rename_i f he
                obtain ⟨hm, _⟩ := hoq.2 w b ho
                subst hv
                have hlk : linksOf E [(k, i), (X.li 0, j)] (k.int ρ) = some p.blk := linksOf_hit hp (by rw [hρ])
                refine ⟨_, hm.look_ptr und_int und_works (a := p.blk) ?_ (zero_work w), _, rfl, ⟨p, hp, ?_⟩, rfl, trivial⟩
                · show (if k.int ρ = 0 then none else _) = _
                  rw [if_neg hne, hlk]
                  rfl
                · rw [hd]
                  rfl
              · exact absurd hoq.1 (by
                  obtain ⟨p', hp', _⟩ := hl (X.li 0, j) (by simp)
                  rw [linksOf_skip (by rw [hρ]; exact hne), linksOf_mark j hp']
                  exact Option.some_ne_none _)
              · exact hoq.elim
            · cases h
          · cases h
        · cases h
    · cases h
  oup := fun t e ls y x r h E o w b v u hρ hl hoq ho hy hx hptr => by
    replace h : rOup pc t e ls y x = some r := h
    replace hρ : E.ρ = ρ := hρ
    replace hoq : ρ.oq (e.val ρ) (linksOf E ls) o := hoq
    rw [hB.oq] at hoq
    unfold rOup at h
    replace h := Option.bind_eq_some_iff.1 h
    obtain ⟨⟨k, q⟩, hq, h⟩ := h
    have hv : v = .int k (q.int ρ) := by rw [← hρ]; exact asI_rel hq hy
    simp only at h
    split at h
    · rename_i hk
      subst hk
      split at h
      · rename_i ht
        subst ht
        split at h
        · rename_i l
          split at h
          · rename_i hr
            obtain ⟨c, hc, rfl⟩ := Option.map_eq_some_iff.1 h
            have h1 : decide (q.int ρ < 0) = false := truL_ok hpc hr.1
            have h2 : decide (q.int ρ < 4096) = true := truL_ok hpc hr.2
            have h1 := of_decide_eq_false h1
            have h2 := of_decide_eq_true h2
            unfold oqD at hoq
            split at hoq
            · exact absurd hoq.1 (by simp [linksOf])
            · rename_i f he
              obtain ⟨hm, hk⟩ := hoq.2 w b ho
              subst hv
              obtain rfl := asBlk_inv hc hx
              have hin : i64 (q.int ρ) := by unfold i64; omega
              obtain ⟨w', hrun, hm', hg⟩ := hm.store und_int und_leaves (by decide) hin (a := pad (c.str E.ρ)) (pad_length _)
              have hkey : ∀ n a, upd f (q.int ρ) (pad (c.str E.ρ)) n = some a → 0 ≤ n ∧ n < 4096 := fun n a ha => by
                by_cases e2 : n = q.int ρ
                · subst e2; omega
                · rw [upd_ne f _ e2] at ha
                  exact hk n a ha
              have hm2 := hm'.tight (a := 0) (m := 4096) (fun n a ha => by have := hkey n a ha; omega) und_int
              obtain ⟨o', ho'⟩ : ∃ o', w'.heap[b]? = some o' := ⟨_, Array.getElem?_eq_getElem hm2.lt⟩
              refine ⟨w', o', hrun, touch_of hg.1 hg.2, ho', ?_, fun x hx => by simp at hx⟩
              show ρ.oq (ρ.f 21 (.p (e.val ρ) (.p (q.val ρ) (c.val ρ)))) _ o'
              rw [hB.oq, he, hB.set]
              refine ⟨by simp [linksOf], fun w2 b2 ho2 => ⟨?_, ?_⟩⟩
              · have := MapI.any hm2 ho' w2 b2 ho2
                rw [hρ] at this
                exact this
              · have := hkey
                rw [hρ] at this
                exact this
            · exact hoq.elim
          · cases h
        · cases h
      · split at h
        · rename_i ht
          subst ht
          have main : ∀ (j i : Nat) (ls : List (X × Nat)), x = .a (.s (.ptr i 0)) → linksOk E ls → (∃ p, E.m j = some p ∧ p.dl = 0) → (∀ n, n ≠ q.int ρ → linksOf E ls n = linksOf E [(.li 0, j)] n) → ((linksOf E ls) 0).isSome → oqD Tryz.prog (e.val ρ) (linksOf E ls) o → truL pc (.lt q (.li 1)) = some false → truL pc (.lt (.li 4096) q) = some false → r = (e, [(q, i), (.li 0, j)]) →
              ∃ w' o', (Instr.mapUpdate 105 (.map (some b)) v u).run Tryz.prog w = .ok () w' ∧ Touch b w w' ∧ w'.heap[b]? = some o' ∧ ρ.oq (r.1.val ρ) (linksOf E r.2) o' ∧ linksOk E r.2 := fun j i ls hxi hl hj hls h0 hoq c1 c2 hr => by
            subst hr
            have h1 : decide (q.int ρ < 1) = false := truL_ok hpc c1
            have h2 : decide (4096 < q.int ρ) = false := truL_ok hpc c2
            have h1 := of_decide_eq_false h1
            have h2 := of_decide_eq_false h2
            obtain ⟨pi, hpi, hdi⟩ := hptr i hxi
            subst hxi
            obtain ⟨pi', hpi', rfl⟩ := hx
            rw [hpi] at hpi'
            obtain rfl := Option.some.inj hpi'
            unfold oqD at hoq
            split at hoq
            · rename_i f he
              obtain ⟨hm, hk⟩ := hoq.2 w b ho
              subst hv
              have hin : i64 (q.int ρ) := by unfold i64; omega
              obtain ⟨w', hrun, hm', hg⟩ := hm.store und_int und_works (by decide) hin (a := pi.blk) trivial
              have hnew : upd (fun n => if n = 0 then none else (linksOf E ls n).or (f n)) (q.int ρ) pi.blk = fun n => if n = 0 then none else (linksOf E [(q, i), (.li 0, j)] n).or (f n) := by
                funext n
                by_cases e2 : n = q.int ρ
                · rw [e2, upd_at, if_neg (by omega), linksOf_hit hpi (by rw [hρ])]
                  rfl
                · rw [upd_ne _ _ e2]
                  show (if n = 0 then none else _) = _
                  split
                  · rfl
                  · rw [hls n e2, linksOf_skip (k := q) (by rw [hρ]; exact fun h => e2 h.symm)]
              rw [hnew] at hm'
              have hkey : ∀ n a, n ≠ 0 → (linksOf E [(q, i), (.li 0, j)] n).or (f n) = some a → 1 ≤ n ∧ n ≤ 4096 := fun n a hn ha => by
                by_cases e2 : n = q.int ρ
                · omega
                · refine hk n a hn ?_
                  rw [hls n e2, ← ha, linksOf_skip (k := q) (by rw [hρ]; exact fun h => e2 h.symm)]
              have hm2 := hm'.tight (a := 1) (m := 4096) (fun n a ha => by
                have hn : n ≠ 0 := fun e => by subst e; simp at ha
                rw [if_neg hn] at ha
                have := hkey n a hn ha
                omega) und_int
              obtain ⟨o', ho'⟩ : ∃ o', w'.heap[b]? = some o' := ⟨_, Array.getElem?_eq_getElem hm2.lt⟩
              obtain ⟨pj, hpj, hdj⟩ := hj
              refine ⟨w', o', ?_, touch_of hg.1 hg.2, ho', ?_, fun y hy => ?_⟩
              · rw [hdi]
                exact hrun
              · show ρ.oq (e.val ρ) _ o'
                rw [hB.oq, he]
                refine ⟨?_, fun w2 b2 ho2 => ⟨MapI.any hm2 ho' w2 b2 ho2, hkey⟩⟩
                rw [linksOf_skip (k := q) (by rw [hρ]; omega), linksOf_mark j hpj]
                rfl
              · rcases List.mem_cons.1 hy with rfl | hy
                · exact ⟨pi, hpi, hdi⟩
                · obtain rfl := List.mem_singleton.1 hy
                  exact ⟨pj, hpj, hdj⟩
            · rw [hoq.1] at h0
              cases h0
            · exact hoq.elim
          split at h
          · rename_i i j
            split at h
            · rename_i hr
              obtain rfl := Option.some.inj h
              exact main j i _ rfl hl (hl (.li 0, j) (by simp)) (fun _ _ => rfl) (by
                obtain ⟨p, hp, _⟩ := hl (.li 0, j) (by simp)
                rw [linksOf_mark j hp]
                rfl) hoq hr.1 hr.2 rfl
            · cases h
          · rename_i i k i0 j
            split at h
            · rename_i hr
              obtain ⟨rfl, hr1, hr2⟩ := hr
              obtain rfl := Option.some.inj h
              have h1 : decide (k.int ρ < 1) = false := truL_ok hpc hr1
              have h1 := of_decide_eq_false h1
              exact main j i _ rfl hl (hl (.li 0, j) (by simp)) (fun n hn => linksOf_skip (by rw [hρ]; exact fun h => hn h.symm)) (by
                obtain ⟨p, hp, _⟩ := hl (.li 0, j) (by simp)
                rw [linksOf_skip (k := k) (by rw [hρ]; omega), linksOf_mark j hp]
                rfl) hoq hr1 hr2 rfl
            · cases h
          · cases h
        · cases h
    · cases h }
end Go.Proofs.YtcnimekhpnejlaaGreat.Ev

/- Memory that is opened for the evaluator, and closed again. -/
namespace Go.Proofs.YtcnimekhpnejlaaGreat.Ev
open Go Go.RowKit
set_option linter.unusedVariables false
set_option linter.unusedSimpArgs false
set_option maxRecDepth 10000

/-- What a value of one form stands for. -/
def SV.den (E : Env) : SV → Value
  | .bool b => .bool b
  | .int k n => .int k n
  | .str s => .string s
  | .nilp => .pointer none
  | .ptr i o => match E.m i with
    | some p => .pointer (some ⟨p.blk, p.dl + o, none⟩)
    | none => undef
  | .nils => .slice none 0 0
  | .nilm => .map none
  | .map i => match E.m i with
    | some p => .map (some p.blk)
    | none => undef
  | .nilf => .nilFunc
  | .nili => .nilIface
  | .xi k e => .int k (e.int E.ρ)
  | .xb e => .bool (e.bool E.ρ)
  | .xs e => .string (e.str E.ρ)
  | .op i => E.ρ.o i
  | _ => undef
def SV.one : SV → Bool
  | .sl .. | .slz _ | .func .. => false
  | _ => true
theorem SV.den_of {E : Env} {x : SV} {v : Value} (h : x.rel E v) (ho : x.one = true) : v = x.den E := by
  cases x <;> first
    | (exact h; done)
    | (exact h.1; done)
    | (obtain ⟨p, hp, rfl⟩ := h; simp only [SV.den, hp]; done)
    | cases ho
def SV.fine (E : Env) : SV → Prop
  | .ptr i _ => ∃ p, E.m i = some p
  | .map i => ∃ p, E.m i = some p
  | .op i => (E.ρ.o i).oneCell' = true
  | .sl .. | .slz _ | .func .. => False
  | _ => True
theorem SV.rel_den {E : Env} {x : SV} (h : x.fine E) : x.rel E (x.den E) := by
  cases x with
  | ptr i o =>
    obtain ⟨p, hp⟩ := h
    exact ⟨p, hp, by simp only [SV.den, hp]⟩
  | map i =>
    obtain ⟨p, hp⟩ := h
    exact ⟨p, hp, by simp only [SV.den, hp]⟩
  | op i => exact ⟨rfl, h⟩
  | sl => exact h.elim
  | slz => exact h.elim
  | func => exact h.elim
  | _ => rfl
theorem dens_of {E : Env} : ∀ {l : List SV} {vs : List Value}, Rels (SV.rel E) l vs → l.all SV.one = true → vs = l.map (SV.den E)
  | [], [], _, _ => rfl
  | x :: l, v :: vs, h, ho => by
    rw [List.all_cons, Bool.and_eq_true] at ho
    rw [List.map_cons, SV.den_of h.1 ho.1, dens_of h.2 ho.2]
  | [], _ :: _, h, _ => h.elim
  | _ :: _, [], h, _ => h.elim
theorem rels_den {E : Env} : ∀ {l : List SV}, (∀ x ∈ l, x.fine E) → Rels (SV.rel E) l (l.map (SV.den E))
  | [], _ => trivial
  | x :: l, h => ⟨SV.rel_den (h x (by simp)), rels_den fun y hy => h y (by simp [hy])⟩

/-! ### Places -/
/-- An environment of blocks, each from its head on. -/
def envL (l : List Nat) (ρ : Rho) : Env := ⟨fun i => l[i]?.map fun b => ⟨b, 0, 0⟩, ρ⟩
theorem envL_at {l : List Nat} {ρ : Rho} {i b : Nat} (h : l[i]? = some b) : (envL l ρ).m i = some ⟨b, 0, 0⟩ := by
  show l[i]?.map _ = _
  rw [h]
  rfl
theorem envL_inv {l : List Nat} {ρ : Rho} {i : Nat} {p : Pl} (h : (envL l ρ).m i = some p) : l[i]? = some p.blk ∧ p.dl = 0 := by
  obtain ⟨b, hb, rfl⟩ := Option.map_eq_some_iff.1 h
  exact ⟨hb, rfl⟩
theorem envL_fresh (l : List Nat) (ρ : Rho) : FreshU (envL l ρ) l.length := fun i hi => by
  show l[i]?.map _ = none
  rw [List.getElem?_eq_none hi]
  rfl
def memL (bs : List Blk) : T Blk := T.ofList bs 0 .nil
theorem memL_get {bs : List Blk} {i : Nat} {b : Blk} (h : (memL bs).get i = some b) : bs[i]? = some b := by
  unfold memL at h
  rw [T.get_ofList] at h
  split at h
  · simpa using h
  · simp [T.get] at h
/-- What is to be known of a block of one's own memory. -/
def Lies (E : Env) (w : World) (b : Nat) : Blk → Prop
  | .cells t none c false => ∃ vs, Row w b t vs ∧ ∃ l, c = Cells.ofList l ∧ Rels (SV.rel E) l vs
  | .opq e ls => ∃ o, w.heap[b]? = some o ∧ linksOk E ls ∧ E.ρ.oq (e.val E.ρ) (linksOf E ls) o
  | .abs e => E.ρ.A.is (e.val E.ρ) b w
  | _ => False
def ownL (E : Env) (w : World) (b : Nat) : Blk → Nat → Prop
  | .abs _, k => E.ρ.A.own b w k
  | _, k => k = b
theorem hrel_mk {l : List Nat} {bs : List Blk} {ρ : Rho} {w : World} (hl : bs.length = l.length) (hlies : ∀ (i b : Nat) (B : Blk), l[i]? = some b → bs[i]? = some B → Lies (envL l ρ) w b B)
    (hap : ∀ (i j b c : Nat) (B C : Blk), l[i]? = some b → l[j]? = some c → bs[i]? = some B → bs[j]? = some C → i ≠ j → ∀ k, ownL (envL l ρ) w b B k → ownL (envL l ρ) w c C k → False) : HRel (envL l ρ) (memL bs) w := by
  have self : ∀ i b B, l[i]? = some b → bs[i]? = some B → ownL (envL l ρ) w b B b := fun i b B hb hB => by
    have h := hlies i b B hb hB
    cases B with
    | abs e => exact ρ.A.self _ _ _ h
    | cells => rfl
    | mp => rfl
    | it => rfl
    | opq => rfl
  have find : ∀ i B, (memL bs).get i = some B → ∃ b, l[i]? = some b ∧ bs[i]? = some B := fun i B hB => by
    have h := memL_get hB
    have hi : i < l.length := by rw [← hl]; exact (List.getElem?_eq_some_iff.1 h).1
    exact ⟨l[i], List.getElem?_eq_getElem hi, h⟩
  refine ⟨fun i B hB => ?_, fun i j B C p q hB hC hp hq e => ?_, ⟨fun i e p hi hp => ?_, fun i e p j C q hi hp hj hq hne ho => ?_, fun i e p j e2 q hi hp hj hq hne k h1 h2 => ?_⟩⟩
  · obtain ⟨b, hb, hB2⟩ := find i B hB
    have h := hlies i b B hb hB2
    refine ⟨⟨b, 0, 0⟩, ?_⟩
    cases B with
    | cells t opn c fz =>
      cases opn with
      | some _ => exact h.elim
      | none =>
        cases fz with
        | true => exact h.elim
        | false =>
          obtain ⟨vs, ⟨cs, h1, h2⟩, l2, rfl, hr⟩ := h
          have hlen := hr.length
          refine ⟨_, envL_at hb, h1, cs, 0, 0, rfl, ⟨fun _ => ⟨rfl, rfl⟩, (fun j _ h => by omega), (fun sz h => by cases h), ?_, fun _ => rfl, fun j hj => ?_⟩⟩
          · rw [Cells.ofList_n]
            show 0 + l2.length ≤ cs.size
            cases hl2 : l2.length with
            | zero => omega
            | succ m =>
              have hv : vs[m]? = some vs[m] := List.getElem?_eq_getElem (by omega)
              have := h2 m _ hv
              have := (Array.getElem?_eq_some_iff.1 this).1
              omega
          · rw [Cells.ofList_n] at hj
            have hx : l2[j]? = some l2[j] := List.getElem?_eq_getElem hj
            obtain ⟨v, hv, hxv⟩ := hr.get j _ hx
            exact ⟨v, by rw [Nat.zero_add]; exact h2 j v hv, by rw [Cells.get_ofList _ _ _ hx]; exact hxv⟩
    | mp => exact h.elim
    | it => exact h.elim
    | opq e ls =>
      obtain ⟨o, ho, h2, h3⟩ := h
      exact ⟨o, envL_at hb, ho, rfl, h2, h3⟩
    | abs e =>
      have hlt : b < w.heap.size := ρ.A.lt _ _ _ h _ (ρ.A.self _ _ _ h)
      exact ⟨_, envL_at hb, Array.getElem?_eq_getElem hlt, rfl⟩
  · obtain ⟨b, hb, hB2⟩ := find i B hB
    obtain ⟨c, hc, hC2⟩ := find j C hC
    have e1 := (envL_inv hp).1
    have e2 := (envL_inv hq).1
    rw [hb] at e1
    rw [hc] at e2
    obtain rfl := Option.some.inj e1
    obtain rfl := Option.some.inj e2
    by_cases hij : i = j
    · exact hij
    · exact (hap i j _ _ B C hb hc hB2 hC2 hij p.blk (self i _ B hb hB2) (by rw [e]; exact self j _ C hc hC2)).elim
  · obtain ⟨b, hb, hB2⟩ := find i _ hi
    have e1 := (envL_inv hp).1
    rw [hb] at e1
    obtain rfl := Option.some.inj e1
    exact hlies i _ _ hb hB2
  · obtain ⟨b, hb, hB2⟩ := find i _ hi
    obtain ⟨c, hc, hC2⟩ := find j C hj
    have e1 := (envL_inv hp).1
    have e2 := (envL_inv hq).1
    rw [hb] at e1
    rw [hc] at e2
    obtain rfl := Option.some.inj e1
    obtain rfl := Option.some.inj e2
    exact hap i j _ _ _ C hb hc hB2 hC2 (Ne.symm hne) q.blk ho (self j _ C hc hC2)
  · obtain ⟨b, hb, hB2⟩ := find i _ hi
    obtain ⟨c, hc, hC2⟩ := find j _ hj
    have e1 := (envL_inv hp).1
    have e2 := (envL_inv hq).1
    rw [hb] at e1
    rw [hc] at e2
    obtain rfl := Option.some.inj e1
    obtain rfl := Option.some.inj e2
    exact hap i j _ _ _ _ hb hc hB2 hC2 (Ne.symm hne) k h1 h2

/-! ### What is seen of blocks, closed -/
theorem row_of_view {E : Env} {h : T Blk} {w : World} (hr : HRel E h w) {i : Nat} {t : TypeId} {l : List SV} (hv : (h.get i).map Blk.view = some (.cells t l)) (ho : l.all SV.one = true) {p : Pl} (hp : E.m i = some p) : Row w p.blk t (l.map (SV.den E)) := by
  obtain ⟨B, hB, hv⟩ := Option.map_eq_some_iff.1 hv
  unfold Blk.view at hv
  split at hv
  · rename_i t' c
    simp only [BV.cells.injEq] at hv
    obtain ⟨rfl, rfl⟩ := hv
    obtain ⟨o, hob, cs, lo, hi, rfl, hc⟩ := hr.blk hB hp
    obtain ⟨rfl, rfl⟩ := hc.fz rfl
    have hd := hc.dl rfl
    have hlen := Cells.list_length c c.n 0
    refine ⟨cs, hob, fun j v hj => ?_⟩
    rw [List.getElem?_map] at hj
    obtain ⟨x, hx, rfl⟩ := Option.map_eq_some_iff.1 hj
    have hjn : j < c.n := by rw [← hlen]; exact (List.getElem?_eq_some_iff.1 hx).1
    obtain ⟨v, h1, h2⟩ := hc.get j hjn
    rw [hd, Nat.zero_add] at h1
    rw [Cells.list_get c _ _ _ hjn, Nat.zero_add] at hx
    obtain rfl := Option.some.inj hx
    have hone : (c.get j).one = true := List.all_eq_true.1 ho _ (by
      refine List.mem_of_getElem? (i := j) ?_
      rw [Cells.list_get c _ _ _ hjn, Nat.zero_add])
    rw [h1, SV.den_of h2 hone]
  · cases hv
  · cases hv
  · cases hv
  · cases hv
theorem opq_of_view {E : Env} {h : T Blk} {w : World} (hr : HRel E h w) {i : Nat} {e : X} {ls : List (X × Nat)} (hv : (h.get i).map Blk.view = some (.opq e ls)) {p : Pl} (hp : E.m i = some p) : ∃ o, w.heap[p.blk]? = some o ∧ linksOk E ls ∧ E.ρ.oq (e.val E.ρ) (linksOf E ls) o := by
  obtain ⟨B, hB, hv⟩ := Option.map_eq_some_iff.1 hv
  unfold Blk.view at hv
  split at hv
  · cases hv
  · simp only [BV.opq.injEq] at hv
    obtain ⟨rfl, rfl⟩ := hv
    obtain ⟨o, hob, _, h2, h3⟩ := hr.blk hB hp
    exact ⟨o, hob, h2, h3⟩
  · cases hv
  · cases hv
  · cases hv
theorem abs_of_view {E : Env} {h : T Blk} {w : World} (hr : HRel E h w) {i : Nat} {e : X} (hv : (h.get i).map Blk.view = some (.abs e)) {p : Pl} (hp : E.m i = some p) : E.ρ.A.is (e.val E.ρ) p.blk w := by
  obtain ⟨B, hB, hv⟩ := Option.map_eq_some_iff.1 hv
  unfold Blk.view at hv
  split at hv
  · cases hv
  · cases hv
  · simp only [BV.abs.injEq] at hv
    obtain rfl := hv
    exact hr.abs.ab i _ p hB hp
  · cases hv
  · cases hv
theorem empty_of_view {E : Env} {h : T Blk} {w : World} (hr : HRel E h w) {i : Nat} (hv : (h.get i).map Blk.view = some .empty) {p : Pl} (hp : E.m i = some p) : w.heap[p.blk]? = some (.map #[] 0) := by
  obtain ⟨B, hB, hv⟩ := Option.map_eq_some_iff.1 hv
  unfold Blk.view at hv
  split at hv
  · cases hv
  · cases hv
  · cases hv
  · obtain ⟨o, hob, ents, rfl, l, hperm, hrel, _⟩ := hr.blk hB hp
    have : l = [] := by
      cases l with
      | nil => rfl
      | cons x l => exact hrel.elim
    subst this
    have he : ents = #[] := by
      have := hperm.length_eq
      simp at this
      exact Array.eq_empty_of_size_eq_zero this.symm
    rw [hob, he]
  · cases hv
theorem MapI.of_empty {α : Type} (El : Elem α) (P : Program) (k : TypeId) {w : World} {b : Nat} (h : w.heap[b]? = some (.map #[] 0)) : MapI El P k w b 0 (fun _ => none) :=
  MapI.any (MapI.made El P k w) (MapKept.heap_alloc w (.map #[] 0)).1 w b h
end Go.Proofs.YtcnimekhpnejlaaGreat.Ev

/- Grown trees, opened for the evaluator and closed again. -/
namespace Go.Proofs.YtcnimekhpnejlaaGreat.Ev
open Go Go.RowKit
set_option linter.unusedVariables false
set_option linter.unusedSimpArgs false
set_option maxRecDepth 10000

/-- What the functions of open values are. -/
def FN (k : Nat) (d : D) : D :=
  match k, d with
  | 900, .p (.st (.leaves f)) n => .b (f n.int).isSome
  | 900, .p (.st (.works f)) n => .b (f n.int).isSome
  | 902, d => .b (decide (-9223372036854775808 ≤ d.int ∧ d.int ≤ 9223372036854775807))
  | 20, .p (.st (.leaves f)) n => .s ⟨((f n.int).getD (zeros 256)).toArray⟩
  | 21, .p (.st (.leaves f)) (.p n b) => .st (.leaves (upd f n.int (pad b.str)))
  | 22, .p (.st (.leaves f)) n => .st (.leaves (kill f fun k => decide (n.int ≤ k)))
  | 30, .p (.st (.grow n lf)) p => .b (decide (0 ≤ p.int ∧ p.int < (4 ^ heightN n : Nat)))
  | 31, .p (.st (.grow n lf)) p => .s ⟨(lf p.int.toNat).toArray⟩
  | 32, .p (.st (.grow n lf)) p => .b (decide (0 ≤ p.int ∧ p.int < n))
  | 33, .p (.st (.grow n lf)) (.p p b) => .st (.grow n fun q => if q = p.int.toNat then pad b.str else lf q)
  | 34, .p (.st (.grow n lf)) m => .st (.grow m.int.toNat fun q => if q < m.int.toNat then lf q else zeros 256)
  | 35, _ => .st (.grow 0 fun _ => zeros 256)
  | 36, .st (.grow _ _) => .b true
  | 36, _ => .b false
  | 40, .p b (.p p s) => .s ⟨(cutB (pad b.str) p.int.toNat s.int.toNat).toArray⟩
  | _, _ => .z
noncomputable def rhoV (v : Nat → D) (o : Nat → Value) : Rho := ⟨v, o, FN, oqD Tryz.prog, absD Tryz.prog⟩
theorem base_ok (v : Nat → D) (o : Nat → Value) : Base (rhoV v o) := ⟨rfl, rfl, fun _ _ => rfl, fun _ _ => rfl, fun _ => rfl, fun _ _ => rfl, fun _ _ _ => rfl⟩
/-- Letters, from a list. -/
def ofL (l : List D) (i : Nat) : D := l.getD i .z

theorem told_nil {ρ : Rho} : Told ρ [] ↔ True := ⟨fun _ => trivial, fun _ => Told.nil⟩
theorem told_cons {ρ : Rho} {q : X} {b : Bool} {pc : List (X × Bool)} : Told ρ ((q, b) :: pc) ↔ q.bool ρ = b ∧ Told ρ pc := ⟨fun h => ⟨h (q, b) (by simp), fun x hx => h x (by simp [hx])⟩, fun h => .cons h.1 h.2⟩

/-- What a call does behind a handle: what it answers, and what lies there then. -/
def Acts (P : Program) (g : Nat) (a : Nat) (args : List Value) (w : World) (Q : Value → D → Prop) : Prop :=
  Calls P g (.pointer (some ⟨a, 0, none⟩) :: args).toArray w fun en w' => ∃ u d', en = .returned u ∧ Q u d' ∧ isD P d' a w' ∧ (∀ k, ownD P a w' k → ownD P a w k ∨ w.heap.size ≤ k) ∧ But (ownD P a w) w w'
theorem Acts.mono {P : Program} {g a : Nat} {args : List Value} {w : World} {Q R : Value → D → Prop} (h : Acts P g a args w Q) (hr : ∀ u d, Q u d → R u d) : Acts P g a args w R :=
  Calls.mono h fun en w' ⟨u, d', h1, h2, h3⟩ => ⟨u, d', h1, hr u d' h2, h3⟩

/-! ### Grown trees -/
def z32 : List SV := List.replicate 32 (.int .u8 0)
def growL (ht lim : SV) (m : Nat) : List SV := [.op 0, .int .i64 0, .int .u32 0] ++ z32 ++ [ht, lim, .map m]
def growM (ht lim : SV) : T Blk := memL [.cells 159 none (Cells.ofList (growL ht lim 1)) false, .opq (.va 0) []]
theorem growL_den {E : Env} {ht lim : SV} {m : Nat} {p : Pl} {c : Value} {h l : Int} (hc : E.ρ.o 0 = c) (hp : E.m m = some p) (hh : ht.den E = .int .i64 h) (hl : lim.den E = .int .i64 l) : (growL ht lim m).map (SV.den E) = growCells c h l p.blk := by
  have e1 : z32.map (SV.den E) = sumZ := by
    unfold z32 sumZ
    rw [List.map_replicate]
    rfl
  unfold growL growCells treeZ
  simp only [List.map_append, List.map_cons, List.map_nil, e1, hh, hl]
  simp only [SV.den, hp, hc]
  rfl
theorem growL_one {ht lim : SV} {m : Nat} (h1 : ht.one = true) (h2 : lim.one = true) : (growL ht lim m).all SV.one = true := by
  have e1 : z32.all SV.one = true := by decide +kernel
  unfold growL
  simp only [List.all_append, List.all_cons, List.all_nil, e1, h1, h2]
  rfl
theorem z32_fine {E : Env} {x : SV} (hx : x ∈ z32) : x.fine E := by
  obtain rfl := (List.mem_replicate.1 hx).2
  trivial

theorem grow_open {w : World} {gb sm n : Nat} {lf : Nat → List UInt8} (h : IsGrow Tryz.prog w gb sm n lf) : ∃ (c : Value) (lim : Int) (f : Int → Option (List UInt8)), (lim = 0 ∨ lim = 1) ∧ Leaves f n lf ∧ gb ≠ sm ∧
    ∀ l : List D, HRel (envL [gb, sm] (rhoV (ofL (.st (.leaves f) :: .i (heightN n) :: .i lim :: l)) fun _ => c)) (growM (.xi .i64 (.va 1)) (.xi .i64 (.va 2))) w := by
  obtain ⟨⟨c, lim, hlim, hc, hrow⟩, f, hm, hf⟩ := h
  have hne : gb ≠ sm := fun e => by
    subst e
    obtain ⟨es, clock, h1⟩ := hm.is_map
    obtain ⟨cs, h2, _⟩ := hrow
    rw [h1] at h2
    cases h2
  refine ⟨c, lim, f, hlim, hf, hne, fun l => hrel_mk rfl (fun i b B hi hB => ?_) (fun i j b c' B C hi hj hB hC hij k h1 h2 => ?_)⟩
  · match i, hi, hB with
    | 0, hi, hB =>
      obtain rfl := Option.some.inj hi
      obtain rfl := Option.some.inj hB
      refine ⟨_, hrow, _, rfl, ?_⟩
      have key := growL_den (E := envL [gb, sm] (rhoV (ofL (.st (.leaves f) :: .i (heightN n) :: .i lim :: l)) fun _ => c)) (ht := .xi .i64 (.va 1)) (lim := .xi .i64 (.va 2)) (m := 1) (p := ⟨sm, 0, 0⟩) (c := c) (h := heightN n) (l := lim) rfl (envL_at rfl) rfl rfl
      rw [← key]
      refine rels_den fun x hx => ?_
      unfold growL at hx
      simp only [List.mem_append, List.mem_cons, List.not_mem_nil, or_false] at hx
      rcases hx with ((rfl | rfl | rfl) | hx) | rfl | rfl | rfl
      · exact hc
      · trivial
      · trivial
      · exact z32_fine hx
      · trivial
      · trivial
      · exact ⟨_, envL_at rfl⟩
    | 1, hi, hB =>
      obtain rfl := Option.some.inj hi
      obtain rfl := Option.some.inj hB
      obtain ⟨es, clock, ho⟩ := hm.is_map
      exact ⟨_, ho, (fun q hq => by simp at hq), rfl, fun w2 b2 ho2 => ⟨MapI.any hm ho w2 b2 ho2, fun i a ha => by
        have := hf.key i a ha
        have := hf.n
        omega⟩⟩
    | i + 2, hi, _ => simp at hi
  · have e1 : k = b := by
      match i, hB with
      | 0, hB => obtain rfl := Option.some.inj hB; exact h1
      | 1, hB => obtain rfl := Option.some.inj hB; exact h1
      | i + 2, hB => simp at hB
    have e2 : k = c' := by
      match j, hC with
      | 0, hC => obtain rfl := Option.some.inj hC; exact h2
      | 1, hC => obtain rfl := Option.some.inj hC; exact h2
      | j + 2, hC => simp at hC
    subst e1
    subst e2
    match i, j, hi, hj with
    | 0, 0, _, _ => exact hij rfl
    | 1, 1, _, _ => exact hij rfl
    | 0, 1, hi, hj =>
      obtain rfl := Option.some.inj hi
      exact hne (Option.some.inj hj).symm
    | 1, 0, hi, hj =>
      obtain rfl := Option.some.inj hi
      exact hne (Option.some.inj hj)
    | i + 2, _, hi, _ => simp at hi
    | 0, j + 2, _, hj => simp at hj
    | 1, j + 2, _, hj => simp at hj

theorem grow_owned {E : Env} {w : World} {gb sm : Nat} {ht lim : SV} (h0 : E.m 0 = some ⟨gb, 0, 0⟩) (h1 : E.m 1 = some ⟨sm, 0, 0⟩) {k : Nat} (h : Owned E (growM ht lim) w k) : k = gb ∨ k = sm := by
  have hb : ∀ j B, (growM ht lim).get j = some B → (j = 0 ∨ j = 1) ∧ B.isAbs = false := fun j B hB => by
    have := memL_get hB
    match j, this with
    | 0, h => obtain rfl := Option.some.inj h; exact ⟨.inl rfl, rfl⟩
    | 1, h => obtain rfl := Option.some.inj h; exact ⟨.inr rfl, rfl⟩
    | j + 2, h => simp at h
  rcases h with ⟨j, B, q, hB, hq, rfl⟩ | ⟨j, e, q, hB, _, _⟩
  · rcases (hb j B hB).1 with rfl | rfl
    · rw [h0] at hq
      obtain rfl := Option.some.inj hq
      exact .inl rfl
    · rw [h1] at hq
      obtain rfl := Option.some.inj hq
      exact .inr rfl
  · cases (hb j _ hB).2

/-- A grown tree, closed: what it is then. -/
theorem grow_close {w w' : World} {gb sm n : Nat} {lf : Nat → List UInt8} (h : IsGrow Tryz.prog w gb sm n lf) {ρ : Rho} (hρo : ρ.oq = oqD Tryz.prog) {ht lim : SV} {E' : Env} {h' : T Blk} {nx nx' : Nat} (hg : Goes (envL [gb, sm] ρ) (growM ht lim) nx w E' h' nx' w')
    {ht' lim' : SV} {e : X} (hv0 : (h'.get 0).map Blk.view = some (.cells 159 (growL ht' lim' 1))) (hv1 : (h'.get 1).map Blk.view = some (.opq e [])) (ho1 : ht'.one = true) (ho2 : lim'.one = true) {n' : Nat} {lim2 : Int} (hh : ht'.den E' = .int .i64 (heightN n')) (hl : lim'.den E' = .int .i64 lim2) (hl2 : lim2 = 0 ∨ lim2 = 1) (hco : (ρ.o 0).oneCell' = true)
    {f' : Int → Option (List UInt8)} (he : e.val ρ = .st (.leaves f')) {lf' : Nat → List UInt8} (hf' : Leaves f' n' lf') :
    isD Tryz.prog (.st (.grow n' lf')) gb w' ∧ (∀ k, ownD Tryz.prog gb w' k → ownD Tryz.prog gb w k ∨ w.heap.size ≤ k) ∧ But (ownD Tryz.prog gb w) w w' := by
  have hρ : E'.ρ = ρ := hg.ext.ρ
  have m0 : E'.m 0 = some ⟨gb, 0, 0⟩ := hg.ext.m _ _ (envL_at rfl)
  have m1 : E'.m 1 = some ⟨sm, 0, 0⟩ := hg.ext.m _ _ (envL_at rfl)
  have hrow := row_of_view hg.rel hv0 (growL_one ho1 ho2) m0
  rw [growL_den rfl m1 hh hl] at hrow
  obtain ⟨o, hob, _, hoq⟩ := opq_of_view hg.rel hv1 m1
  rw [hρ, hρo, he] at hoq
  obtain ⟨hm, _⟩ := hoq.2 _ _ hob
  have hG : IsGrow Tryz.prog w' gb sm n' lf' := ⟨⟨_, lim2, hl2, by rw [hρ]; exact hco, hrow⟩, f', hm, hf'⟩
  refine ⟨⟨sm, hG⟩, fun k hk => .inl ((ownD_grow h k).2 ((ownD_grow hG k).1 hk)), ⟨hg.frame.os, hg.frame.tape, hg.frame.output, hg.frame.size, fun k hk hn => hg.frame.block k hk fun ho => hn ((ownD_grow h k).2 (grow_owned (envL_at rfl) (envL_at rfl) ho))⟩⟩
end Go.Proofs.YtcnimekhpnejlaaGreat.Ev

/- What calls come to, on all their ways (written by wip/tools/tabs.py). -/
namespace Go.Proofs.YtcnimekhpnejlaaGreat.Ev
open Go
def leafT : PT := (.node (.lt (.va 3) (.li 0)) .leaf (.node (.lt (.bin .mul .i64 (.li 2) (.va 1)) (.li 0)) .dead (.node (.lt (.va 3) (.bin .shl .i64 (.li 1) (.bin .mul .i64 (.li 2) (.va 1)))) (.node (.app 902 (.va 3)) (.node (.app 900 (.cons (.va 0) (.va 3))) .leaf (.node (.lt (.va 3) (.va 2)) (.node (.lt (.li 1) (.va 3)) .leaf (.node (.lt (.bin .sub .i64 (.li 1) (.va 3)) (.li 1)) .leaf .leaf)) .leaf)) .dead) .leaf)))
def leafL : List (List (X × Bool) × Option (EV × List (Option BV))) := [
  ([((.lt (.va 3) (.li 0)), true)], some ((.tup [(.agg blk0), (.s (.int .i64 90))]), [some (.cells 159 (growL (.xi .i64 (.va 1)) (.xi .i64 (.va 2)) 1)), some (.opq (.va 0) [])])),
  ([((.lt (.bin .mul .i64 (.li 2) (.va 1)) (.li 0)), true), ((.lt (.va 3) (.li 0)), false)], none),
  ([((.app 900 (.cons (.va 0) (.va 3))), true), ((.app 902 (.va 3)), true), ((.lt (.va 3) (.bin .shl .i64 (.li 1) (.bin .mul .i64 (.li 2) (.va 1)))), true), ((.lt (.bin .mul .i64 (.li 2) (.va 1)) (.li 0)), false), ((.lt (.va 3) (.li 0)), false)], some ((.tup [(.agg (blkX (.app 20 (.cons (.va 0) (.va 3))))), (.s (.int .i64 0))]), [some (.cells 159 (growL (.xi .i64 (.va 1)) (.xi .i64 (.va 2)) 1)), some (.opq (.va 0) [])])),
  ([((.lt (.li 1) (.va 3)), true), ((.lt (.va 3) (.va 2)), true), ((.app 900 (.cons (.va 0) (.va 3))), false), ((.app 902 (.va 3)), true), ((.lt (.va 3) (.bin .shl .i64 (.li 1) (.bin .mul .i64 (.li 2) (.va 1)))), true), ((.lt (.bin .mul .i64 (.li 2) (.va 1)) (.li 0)), false), ((.lt (.va 3) (.li 0)), false)], some ((.tup [(.agg blk0), (.s (.int .i64 90))]), [some (.cells 159 (growL (.xi .i64 (.va 1)) (.xi .i64 (.va 2)) 1)), some (.opq (.va 0) [])])),
  ([((.lt (.bin .sub .i64 (.li 1) (.va 3)) (.li 1)), true), ((.lt (.li 1) (.va 3)), false), ((.lt (.va 3) (.va 2)), true), ((.app 900 (.cons (.va 0) (.va 3))), false), ((.app 902 (.va 3)), true), ((.lt (.va 3) (.bin .shl .i64 (.li 1) (.bin .mul .i64 (.li 2) (.va 1)))), true), ((.lt (.bin .mul .i64 (.li 2) (.va 1)) (.li 0)), false), ((.lt (.va 3) (.li 0)), false)], some ((.tup [(.agg blk0), (.s (.int .i64 90))]), [some (.cells 159 (growL (.xi .i64 (.va 1)) (.xi .i64 (.va 2)) 1)), some (.opq (.va 0) [])])),
  ([((.lt (.bin .sub .i64 (.li 1) (.va 3)) (.li 1)), false), ((.lt (.li 1) (.va 3)), false), ((.lt (.va 3) (.va 2)), true), ((.app 900 (.cons (.va 0) (.va 3))), false), ((.app 902 (.va 3)), true), ((.lt (.va 3) (.bin .shl .i64 (.li 1) (.bin .mul .i64 (.li 2) (.va 1)))), true), ((.lt (.bin .mul .i64 (.li 2) (.va 1)) (.li 0)), false), ((.lt (.va 3) (.li 0)), false)], some ((.tup [(.agg blk0), (.s (.int .i64 0))]), [some (.cells 159 (growL (.xi .i64 (.va 1)) (.xi .i64 (.va 2)) 1)), some (.opq (.va 0) [])])),
  ([((.lt (.va 3) (.va 2)), false), ((.app 900 (.cons (.va 0) (.va 3))), false), ((.app 902 (.va 3)), true), ((.lt (.va 3) (.bin .shl .i64 (.li 1) (.bin .mul .i64 (.li 2) (.va 1)))), true), ((.lt (.bin .mul .i64 (.li 2) (.va 1)) (.li 0)), false), ((.lt (.va 3) (.li 0)), false)], some ((.tup [(.agg blk0), (.s (.int .i64 0))]), [some (.cells 159 (growL (.xi .i64 (.va 1)) (.xi .i64 (.va 2)) 1)), some (.opq (.va 0) [])])),
  ([((.app 902 (.va 3)), false), ((.lt (.va 3) (.bin .shl .i64 (.li 1) (.bin .mul .i64 (.li 2) (.va 1)))), true), ((.lt (.bin .mul .i64 (.li 2) (.va 1)) (.li 0)), false), ((.lt (.va 3) (.li 0)), false)], none),
  ([((.lt (.va 3) (.bin .shl .i64 (.li 1) (.bin .mul .i64 (.li 2) (.va 1)))), false), ((.lt (.bin .mul .i64 (.li 2) (.va 1)) (.li 0)), false), ((.lt (.va 3) (.li 0)), false)], some ((.tup [(.agg blk0), (.s (.int .i64 90))]), [some (.cells 159 (growL (.xi .i64 (.va 1)) (.xi .i64 (.va 2)) 1)), some (.opq (.va 0) [])]))]
def setT : PT := (.node (.lt (.va 3) (.li 0)) .leaf (.node (.lt (.bin .mul .i64 (.li 2) (.va 1)) (.li 0)) .dead (.node (.lt (.va 3) (.bin .shl .i64 (.li 1) (.bin .mul .i64 (.li 2) (.va 1)))) (.node (.lt (.va 3) (.li 4096)) .leaf .dead) .leaf)))
def setL : List (List (X × Bool) × Option (EV × List (Option BV))) := [
  ([((.lt (.va 3) (.li 0)), true)], some ((.a (.s (.int .i64 90))), [some (.cells 159 (growL (.xi .i64 (.va 1)) (.xi .i64 (.va 2)) 1)), some (.opq (.va 0) [])])),
  ([((.lt (.bin .mul .i64 (.li 2) (.va 1)) (.li 0)), true), ((.lt (.va 3) (.li 0)), false)], none),
  ([((.lt (.va 3) (.li 4096)), true), ((.lt (.va 3) (.bin .shl .i64 (.li 1) (.bin .mul .i64 (.li 2) (.va 1)))), true), ((.lt (.bin .mul .i64 (.li 2) (.va 1)) (.li 0)), false), ((.lt (.va 3) (.li 0)), false)], some ((.a (.s (.int .i64 0))), [some (.cells 159 (growL (.xi .i64 (.va 1)) (.xi .i64 (.va 2)) 1)), some (.opq (.app 21 (.cons (.va 0) (.cons (.va 3) (.va 4)))) [])])),
  ([((.lt (.va 3) (.li 4096)), false), ((.lt (.va 3) (.bin .shl .i64 (.li 1) (.bin .mul .i64 (.li 2) (.va 1)))), true), ((.lt (.bin .mul .i64 (.li 2) (.va 1)) (.li 0)), false), ((.lt (.va 3) (.li 0)), false)], none),
  ([((.lt (.va 3) (.bin .shl .i64 (.li 1) (.bin .mul .i64 (.li 2) (.va 1)))), false), ((.lt (.bin .mul .i64 (.li 2) (.va 1)) (.li 0)), false), ((.lt (.va 3) (.li 0)), false)], some ((.a (.s (.int .i64 90))), [some (.cells 159 (growL (.xi .i64 (.va 1)) (.xi .i64 (.va 2)) 1)), some (.opq (.va 0) [])]))]
end Go.Proofs.YtcnimekhpnejlaaGreat.Ev

/- Grown trees: a leaf, a leaf that is laid. -/
namespace Go.Proofs.YtcnimekhpnejlaaGreat.Ev
open Go Go.RowKit
set_option linter.unusedVariables false
set_option linter.unusedSimpArgs false
set_option maxRecDepth 10000

theorem heightN_le (n : Nat) : heightN n ≤ 6 := by
  unfold heightN
  repeat' split
  all_goals omega
theorem heightN_room {n : Nat} (h : n ≤ 4096) : n ≤ 4 ^ heightN n := by
  unfold heightN
  repeat' split
  all_goals omega
theorem mul_int {ρ : Rho} {i : Nat} {h : Nat} (hv : ρ.v i = .i h) (hh : h ≤ 6) : X.int ρ (.bin .mul .i64 (.li 2) (.va i)) = 2 * h := by
  show (IntKind.i64.wrap (2 * (ρ.v i).int)) = _
  rw [hv]
  show IntKind.i64.wrap (2 * (h : Int)) = _
  match h, hh with
  | 0, _ | 1, _ | 2, _ | 3, _ | 4, _ | 5, _ | 6, _ => decide
theorem room_int {ρ : Rho} {i : Nat} {h : Nat} (hv : ρ.v i = .i h) (hh : h ≤ 6) : X.int ρ (.bin .shl .i64 (.li 1) (.bin .mul .i64 (.li 2) (.va i))) = (4 ^ h : Nat) := by
  show intBin .shl .i64 1 (X.int ρ (.bin .mul .i64 (.li 2) (.va i))) = _
  rw [mul_int hv hh]
  match h, hh with
  | 0, _ | 1, _ | 2, _ | 3, _ | 4, _ | 5, _ | 6, _ => decide
theorem lt_true {ρ : Rho} {a b : X} : X.bool ρ (.lt a b) = true ↔ a.int ρ < b.int ρ := by
  show decide _ = true ↔ _
  rw [decide_eq_true_eq]
  rfl
theorem lt_false {ρ : Rho} {a b : X} : X.bool ρ (.lt a b) = false ↔ b.int ρ ≤ a.int ρ := by
  show decide _ = false ↔ _
  rw [decide_eq_false_iff_not, Int.not_lt]
  rfl
theorem eq_true {ρ : Rho} {a b : X} : X.bool ρ (.eq a b) = true ↔ a.int ρ = b.int ρ := by
  show ((a.int ρ) == (b.int ρ)) = true ↔ _
  rw [beq_iff_eq]
theorem eq_false {ρ : Rho} {a b : X} : X.bool ρ (.eq a b) = false ↔ a.int ρ ≠ b.int ρ := by
  show ((a.int ρ) == (b.int ρ)) = false ↔ _
  rw [beq_eq_false_iff_ne]

theorem leaf_ev (ρ : Rho) : ways (fun pc => (evCall (ctx rules ρ pc) funT.get noSum 100000 1000 59 [.a (.s (.ptr 0 0)), .a (.s (.xi .i64 (.va 3)))] (growM (.xi .i64 (.va 1)) (.xi .i64 (.va 2))) 2).map (view [0, 1])) leafT [] = some leafL := by kernel_rfl
theorem set_ev (ρ : Rho) : ways (fun pc => (evCall (ctx rules ρ pc) funT.get noSum 100000 1000 60 [.a (.s (.ptr 0 0)), .a (.s (.xi .i64 (.va 3))), .a (.agg (blkX (.va 4)))] (growM (.xi .i64 (.va 1)) (.xi .i64 (.va 2))) 2).map (view [0, 1])) setT [] = some setL := by kernel_rfl
end Go.Proofs.YtcnimekhpnejlaaGreat.Ev

/- Grown trees: contracts of Leaf and Set. -/
namespace Go.Proofs.YtcnimekhpnejlaaGreat.Ev
open Go Go.RowKit
set_option linter.unusedVariables false
set_option linter.unusedSimpArgs false
set_option maxRecDepth 10000

theorem li_int {ρ : Rho} {n : Int} : X.int ρ (.li n) = n := rfl
theorem tup2 {E : Env} {a b : AV} {v va vb : Value} (h : (EV.tup [a, b]).rel E v) (ha : ∀ x, a.rel E x → x = va) (hb : ∀ x, b.rel E x → x = vb) : v = .tuple #[va, vb] := by
  obtain ⟨vs, rfl, hr⟩ := h
  match vs, hr with
  | [x, y], hr => rw [ha x hr.1, hb y hr.2.1]
theorem blk0_v {E : Env} : ∀ x, (AV.agg blk0).rel E x → x = elBlk.val (zeros 256) := fun _ h => blk0_inv h
theorem int_v {E : Env} {k : IntKind} {n : Int} : ∀ x, (AV.s (.int k n)).rel E x → x = .int k n := fun _ h => h

theorem grow_one {gb sm : Nat} {ρ : Rho} {ht lim : SV} {w : World} (hr : HRel (envL [gb, sm] ρ) (growM ht lim) w) : (ρ.o 0).oneCell' = true := by
  obtain ⟨p, o, hp, ho, cs, lo, hi, rfl, hcr⟩ := hr.at_ 0 _ rfl
  obtain ⟨v, _, hv⟩ := hcr.get 0 (by rw [Cells.ofList_n]; show 0 < (3 + 32 + 3); omega)
  rw [Cells.get_ofList _ 0 (.op 0) rfl] at hv
  have h1 : v = ρ.o 0 := hv.1
  rw [← h1]
  exact hv.2
/-- A grown tree that is as it was. -/
theorem grow_same {w : World} {gb sm n : Nat} {lf : Nat → List UInt8} (h : IsGrow Tryz.prog w gb sm n lf) {c : Value} {lim : Int} {f : Int → Option (List UInt8)} (hlim : lim = 0 ∨ lim = 1) (hf : Leaves f n lf) {l : List D} {g nx : Nat} {vs : List Value} {r : EV} {Q : Value → D → Prop}
    (hr : HRel (envL [gb, sm] (rhoV (ofL (.st (.leaves f) :: .i (heightN n) :: .i lim :: l)) fun _ => c)) (growM (.xi .i64 (.va 1)) (.xi .i64 (.va 2))) w)
    (hc : Came Tryz.prog g (.pointer (some ⟨gb, 0, none⟩) :: vs).toArray (envL [gb, sm] (rhoV (ofL (.st (.leaves f) :: .i (heightN n) :: .i lim :: l)) fun _ => c)) (growM (.xi .i64 (.va 1)) (.xi .i64 (.va 2))) nx w [0, 1] (r, [some (.cells 159 (growL (.xi .i64 (.va 1)) (.xi .i64 (.va 2)) 1)), some (.opq (.va 0) [])]))
    (hQ : ∀ (E : Env) v, E.ρ = rhoV (ofL (.st (.leaves f) :: .i (heightN n) :: .i lim :: l)) (fun _ => c) → r.rel E v → Q v (.st (.grow n lf))) : Acts Tryz.prog g gb vs w Q := by
  refine Calls.mono hc fun en w' ⟨v, E', h', nx', he, hg, hv, hview⟩ => ?_
  have v0 := (List.cons.inj hview).1.symm
  have v1 := (List.cons.inj (List.cons.inj hview).2).1.symm
  have hone : c.oneCell' = true := grow_one hr
  have hρ : E'.ρ = _ := hg.ext.ρ
  obtain ⟨h1, h2, h3⟩ := grow_close h rfl hg v0 v1 rfl rfl (n' := n) (lim2 := lim) (by rw [SV.den, hρ]; rfl) (by rw [SV.den, hρ]; rfl) hlim hone (f' := f) rfl hf
  exact ⟨v, _, he, hQ E' v hρ hv, h1, h2, h3⟩

theorem grow_leaf {w : World} {gb sm n : Nat} {lf : Nat → List UInt8} (h : IsGrow Tryz.prog w gb sm n lf) {p : Int} (hp : i64 p) : Acts Tryz.prog 59 gb [.int .i64 p] w fun u d => d = .st (.grow n lf) ∧
    (0 ≤ p ∧ p < (4 ^ heightN n : Nat) ∧ u = .tuple #[elBlk.val (lf p.toNat), .int .i64 0] ∨ ¬ (0 ≤ p ∧ p < (4 ^ heightN n : Nat)) ∧ u = .tuple #[elBlk.val (zeros 256), .int .i64 90]) := by
  obtain ⟨c, lim, f, hlim, hf, hne, hopen⟩ := grow_open h
  have hr := hopen [.i p]
  obtain ⟨x, hx, ht, hc⟩ := ways_calls (rules_ok (base_ok _ _)) (fun _ _ => noSum_ok) (leaf_ev _) hr rfl (envL_fresh _ _) (vs := [.pointer (some ⟨gb, 0, none⟩), .int .i64 p]) ⟨⟨⟨gb, 0, 0⟩, envL_at rfl, rfl⟩, rfl, trivial⟩
  have hroom := room_int (ρ := rhoV (ofL [.st (.leaves f), .i (heightN n), .i lim, .i p]) fun _ => c) (i := 1) rfl (heightN_le n)
  have hmul := mul_int (ρ := rhoV (ofL [.st (.leaves f), .i (heightN n), .i lim, .i p]) fun _ => c) (i := 1) rfl (heightN_le n)
  have h0 : X.int (rhoV (ofL [.st (.leaves f), .i (heightN n), .i lim, .i p]) fun _ => c) (.va 3) = p := rfl
  have hl : X.int (rhoV (ofL [.st (.leaves f), .i (heightN n), .i lim, .i p]) fun _ => c) (.va 2) = lim := rfl
  have h902 : X.bool (rhoV (ofL [.st (.leaves f), .i (heightN n), .i lim, .i p]) fun _ => c) (.app 902 (.va 3)) = true := decide_eq_true hp
  have hf' : ∀ a, f p = some a → 0 ≤ p → a = lf p.toNat := fun a ha h1 => by
    have h2 := hf.key p a ha
    have h3 := hf.at_ p.toNat (by omega)
    rw [Int.toNat_of_nonneg h1, ha] at h3
    exact h3
  have hnone : f p = none → 0 ≤ p → lf p.toNat = zeros 256 := fun ha h1 => by
    rcases Nat.lt_or_ge p.toNat n with h2 | h2
    · have h3 := hf.at_ p.toNat h2
      rw [Int.toNat_of_nonneg h1, ha] at h3
      exact h3.symm
    · exact hf.past _ h2
  have h900 : X.bool (rhoV (ofL [.st (.leaves f), .i (heightN n), .i lim, .i p]) fun _ => c) (.app 900 (.cons (.va 0) (.va 3))) = (f p).isSome := rfl
  simp only [leafL, List.mem_cons, List.not_mem_nil, or_false] at hx
  rcases hx with rfl | rfl | rfl | rfl | rfl | rfl | rfl | rfl | rfl <;> simp only [told_cons, told_nil, lt_true, lt_false, hroom, hmul, h0, hl, h902, h900, li_int, and_true] at ht
  · refine grow_same h hlim hf hr (hc _ rfl) fun E v _ hv => ⟨rfl, .inr ⟨by omega, tup2 hv blk0_v int_v⟩⟩
  · omega
  · obtain ⟨a, ha⟩ := Option.isSome_iff_exists.1 ht.1
    refine grow_same h hlim hf hr (hc _ rfl) fun E v hE hv => ⟨rfl, .inl ⟨by omega, by omega, tup2 hv (fun x hx => ?_) int_v⟩⟩
    rw [blkX_inv hx, ← hf' a ha (by omega)]
    have h5 : X.str E.ρ (.app 20 (.cons (.va 0) (.va 3))) = ⟨((f p).getD (zeros 256)).toArray⟩ := by
      rw [hE]
      rfl
    rw [h5, ha]
    have hlen : a.length = 256 := by
      rw [hf' a ha (by omega)]
      exact hf.len _
    exact congrArg elBlk.val (pad_of hlen)
  · have : (4 ^ heightN n : Nat) ≤ 4 ^ 6 := Nat.pow_le_pow_right (by omega) (heightN_le n)
    omega
  · have hs : p = 0 → X.int (rhoV (ofL [.st (.leaves f), .i (heightN n), .i lim, .i p]) fun _ => c) (.bin .sub .i64 (.li 1) (.va 3)) = 1 := fun e => by
      subst e
      show IntKind.i64.wrap (1 - 0) = 1
      decide
    have := hs (by omega)
    omega
  · refine grow_same h hlim hf hr (hc _ rfl) fun E v hE hv => ⟨rfl, .inl ⟨by omega, by omega, ?_⟩⟩
    rw [hnone (by simpa using ht.2.2.2.1) (by omega)]
    exact tup2 hv blk0_v int_v
  · refine grow_same h hlim hf hr (hc _ rfl) fun E v hE hv => ⟨rfl, .inl ⟨by omega, by omega, ?_⟩⟩
    rw [hnone (by simpa using ht.2.1) (by omega)]
    exact tup2 hv blk0_v int_v
  · cases ht.1
  · refine grow_same h hlim hf hr (hc _ rfl) fun E v _ hv => ⟨rfl, .inr ⟨by omega, tup2 hv blk0_v int_v⟩⟩

theorem Leaves.set {f : Int → Option (List UInt8)} {n : Nat} {lf : Nat → List UInt8} (h : Leaves f n lf) {p : Nat} (hp : p < n) {b : List UInt8} (hb : b.length = 256) : Leaves (upd f p b) n (fun q => if q = p then b else lf q) where
  at_ := fun q hq => by
    by_cases e : q = p
    · rw [if_pos e, e, upd_at]
      rfl
    · rw [if_neg e, upd_ne f b (by omega)]
      exact h.at_ q hq
  past := fun q hq => by
    rw [if_neg (by omega)]
    exact h.past q hq
  key := fun i a ha => by
    by_cases e : i = (p : Int)
    · omega
    · rw [upd_ne f b e] at ha
      exact h.key i a ha
  n := h.n
  len := fun q => by
    split
    · exact hb
    · exact h.len q
/-- A leaf is laid, of a place less than the leaves' number. -/
theorem grow_set {w : World} {gb sm n : Nat} {lf : Nat → List UInt8} (h : IsGrow Tryz.prog w gb sm n lf) {p : Nat} (hp : p < n) {b : List UInt8} (hb : b.length = 256) : Acts Tryz.prog 60 gb [.int .i64 p, elBlk.val b] w fun u d => d = .st (.grow n (fun q => if q = p then b else lf q)) ∧ u = .int .i64 0 := by
  obtain ⟨c, lim, f, hlim, hf, hne, hopen⟩ := grow_open h
  have hn := hf.n
  have hr := hopen [.i p, .s ⟨b.toArray⟩]
  have hblk : (AV.agg (blkX (.va 4))).rel (envL [gb, sm] (rhoV (ofL [.st (.leaves f), .i (heightN n), .i lim, .i p, .s ⟨b.toArray⟩]) fun _ => c)) (elBlk.val b) := by
    have h1 := blkX_rel (E := envL [gb, sm] (rhoV (ofL [.st (.leaves f), .i (heightN n), .i lim, .i p, .s ⟨b.toArray⟩]) fun _ => c)) (.va 4)
    have h2 : pad (X.str (envL [gb, sm] (rhoV (ofL [.st (.leaves f), .i (heightN n), .i lim, .i p, .s ⟨b.toArray⟩]) fun _ => c)).ρ (.va 4)) = b := pad_of hb
    rw [h2] at h1
    exact h1
  obtain ⟨x, hx, ht, hc⟩ := ways_calls (rules_ok (base_ok _ _)) (fun _ _ => noSum_ok) (set_ev _) hr rfl (envL_fresh _ _) (vs := [.pointer (some ⟨gb, 0, none⟩), .int .i64 p, elBlk.val b]) ⟨⟨⟨gb, 0, 0⟩, envL_at rfl, rfl⟩, rfl, hblk, trivial⟩
  have hroom := room_int (ρ := rhoV (ofL [.st (.leaves f), .i (heightN n), .i lim, .i p, .s ⟨b.toArray⟩]) fun _ => c) (i := 1) rfl (heightN_le n)
  have hmul := mul_int (ρ := rhoV (ofL [.st (.leaves f), .i (heightN n), .i lim, .i p, .s ⟨b.toArray⟩]) fun _ => c) (i := 1) rfl (heightN_le n)
  have h0 : X.int (rhoV (ofL [.st (.leaves f), .i (heightN n), .i lim, .i p, .s ⟨b.toArray⟩]) fun _ => c) (.va 3) = p := rfl
  have hle := heightN_room hn
  simp only [setL, List.mem_cons, List.not_mem_nil, or_false] at hx
  rcases hx with rfl | rfl | rfl | rfl | rfl <;> simp only [told_cons, told_nil, lt_true, lt_false, hroom, hmul, h0, li_int, and_true] at ht
  · omega
  · omega
  · refine Calls.mono (hc _ rfl) fun en w' ⟨v, E', h', nx', he, hg, hv, hview⟩ => ?_
    have v0 := (List.cons.inj hview).1.symm
    have v1 := (List.cons.inj (List.cons.inj hview).2).1.symm
    have hρ : E'.ρ = _ := hg.ext.ρ
    obtain ⟨h1, h2, h3⟩ := grow_close h rfl hg v0 v1 rfl rfl (n' := n) (lim2 := lim) (by rw [SV.den, hρ]; rfl) (by rw [SV.den, hρ]; rfl) hlim (grow_one hr) (f' := upd f p (pad ⟨b.toArray⟩)) rfl (lf' := fun q => if q = p then b else lf q) (by rw [pad_of hb]; exact Leaves.set hf hp hb)
    exact ⟨v, _, he, ⟨rfl, hv⟩, h1, h2, h3⟩
  · omega
  · omega
end Go.Proofs.YtcnimekhpnejlaaGreat.Ev

/- What calls come to, on all their ways (written by wip/tools/tabs.py). -/
namespace Go.Proofs.YtcnimekhpnejlaaGreat.Ev
open Go
def fitT : PT := (.node (.lt (.va 3) (.li 0)) .leaf (.node (.lt (.li 4096) (.va 3)) .leaf (.node (.lt (.li 1) (.va 3)) (.node (.lt (.li 4) (.va 3)) (.node (.lt (.li 16) (.va 3)) (.node (.lt (.li 64) (.va 3)) (.node (.lt (.li 256) (.va 3)) (.node (.lt (.li 1024) (.va 3)) .leaf .leaf) .leaf) .leaf) .leaf) .leaf) .leaf)))
def fitL : List (List (X × Bool) × Option (EV × List (Option BV))) := [
  ([((.lt (.va 3) (.li 0)), true)], some ((.a (.s (.int .i64 1))), [some (.cells 159 (growL (.xi .i64 (.va 1)) (.xi .i64 (.va 2)) 1)), some (.opq (.va 0) [])])),
  ([((.lt (.li 4096) (.va 3)), true), ((.lt (.va 3) (.li 0)), false)], some ((.a (.s (.int .i64 1))), [some (.cells 159 (growL (.xi .i64 (.va 1)) (.xi .i64 (.va 2)) 1)), some (.opq (.va 0) [])])),
  ([((.lt (.li 1024) (.va 3)), true), ((.lt (.li 256) (.va 3)), true), ((.lt (.li 64) (.va 3)), true), ((.lt (.li 16) (.va 3)), true), ((.lt (.li 4) (.va 3)), true), ((.lt (.li 1) (.va 3)), true), ((.lt (.li 4096) (.va 3)), false), ((.lt (.va 3) (.li 0)), false)], some ((.a (.s (.int .i64 0))), [some (.cells 159 (growL (.int .i64 6) (.xi .i64 (.mn (.va 2) (.va 3))) 1)), some (.opq (.app 22 (.cons (.va 0) (.va 3))) [])])),
  ([((.lt (.li 1024) (.va 3)), false), ((.lt (.li 256) (.va 3)), true), ((.lt (.li 64) (.va 3)), true), ((.lt (.li 16) (.va 3)), true), ((.lt (.li 4) (.va 3)), true), ((.lt (.li 1) (.va 3)), true), ((.lt (.li 4096) (.va 3)), false), ((.lt (.va 3) (.li 0)), false)], some ((.a (.s (.int .i64 0))), [some (.cells 159 (growL (.int .i64 5) (.xi .i64 (.mn (.va 2) (.va 3))) 1)), some (.opq (.app 22 (.cons (.va 0) (.va 3))) [])])),
  ([((.lt (.li 256) (.va 3)), false), ((.lt (.li 64) (.va 3)), true), ((.lt (.li 16) (.va 3)), true), ((.lt (.li 4) (.va 3)), true), ((.lt (.li 1) (.va 3)), true), ((.lt (.li 4096) (.va 3)), false), ((.lt (.va 3) (.li 0)), false)], some ((.a (.s (.int .i64 0))), [some (.cells 159 (growL (.int .i64 4) (.xi .i64 (.mn (.va 2) (.va 3))) 1)), some (.opq (.app 22 (.cons (.va 0) (.va 3))) [])])),
  ([((.lt (.li 64) (.va 3)), false), ((.lt (.li 16) (.va 3)), true), ((.lt (.li 4) (.va 3)), true), ((.lt (.li 1) (.va 3)), true), ((.lt (.li 4096) (.va 3)), false), ((.lt (.va 3) (.li 0)), false)], some ((.a (.s (.int .i64 0))), [some (.cells 159 (growL (.int .i64 3) (.xi .i64 (.mn (.va 2) (.va 3))) 1)), some (.opq (.app 22 (.cons (.va 0) (.va 3))) [])])),
  ([((.lt (.li 16) (.va 3)), false), ((.lt (.li 4) (.va 3)), true), ((.lt (.li 1) (.va 3)), true), ((.lt (.li 4096) (.va 3)), false), ((.lt (.va 3) (.li 0)), false)], some ((.a (.s (.int .i64 0))), [some (.cells 159 (growL (.int .i64 2) (.xi .i64 (.mn (.va 2) (.va 3))) 1)), some (.opq (.app 22 (.cons (.va 0) (.va 3))) [])])),
  ([((.lt (.li 4) (.va 3)), false), ((.lt (.li 1) (.va 3)), true), ((.lt (.li 4096) (.va 3)), false), ((.lt (.va 3) (.li 0)), false)], some ((.a (.s (.int .i64 0))), [some (.cells 159 (growL (.int .i64 1) (.xi .i64 (.mn (.va 2) (.va 3))) 1)), some (.opq (.app 22 (.cons (.va 0) (.va 3))) [])])),
  ([((.lt (.li 1) (.va 3)), false), ((.lt (.li 4096) (.va 3)), false), ((.lt (.va 3) (.li 0)), false)], some ((.a (.s (.int .i64 0))), [some (.cells 159 (growL (.int .i64 0) (.xi .i64 (.mn (.va 2) (.va 3))) 1)), some (.opq (.app 22 (.cons (.va 0) (.va 3))) [])]))]
def cloneT : PT := .leaf
def cloneL : List (List (X × Bool) × Option (EV × List (Option BV))) := [
  ([], some ((.a (.s (.ptr 2 0))), [some (.cells 159 (growL (.xi .i64 (.va 1)) (.xi .i64 (.va 2)) 1)), some (.opq (.va 0) []), some (.cells 159 (growL (.xi .i64 (.va 1)) (.xi .i64 (.va 2)) 3)), some (.opq (.va 0) [])]))]
def newT : PT := .leaf
def newL : List (List (X × Bool) × Option (EV × List (Option BV))) := [
  ([], some ((.tup [(.s (.ptr 1 0)), (.s (.int .i64 0))]), [some (.cells 82 ([(.int .i64 0), (.int .u32 0)] ++ List.replicate 32 (.int .u8 0))), some (.cells 159 (growL (.int .i64 0) (.int .i64 1) 5)), some (.cells 82 ([(.int .i64 0), (.int .u32 0)] ++ List.replicate 32 (.int .u8 0))), some (.cells 82 ([(.int .i64 0), (.int .u32 0)] ++ List.replicate 32 (.int .u8 0))), some (.cells 80 ([(.int .u32 0)] ++ List.replicate 32 (.int .u8 0))), some .empty, none]))]
end Go.Proofs.YtcnimekhpnejlaaGreat.Ev

/- A piece of code, evaluated on all its ways. -/
namespace Go.Proofs.YtcnimekhpnejlaaGreat.Ev
open Go Go.RowKit
set_option linter.unusedVariables false

/-- A piece of code: 0 and 1 are the parts. -/
def codeAt : Code → List Nat → Code
  | c, [] => c
  | .seq a b, i :: p => if i = 0 then codeAt a p else codeAt b p
  | .cond _ a b, i :: p => if i = 0 then codeAt a p else codeAt b p
  | .block _ a, _ :: p => codeAt a p
  | .loop a, _ :: p => codeAt a p
  | c, _ :: _ => c
abbrev CodeV := Out × List (Option EV) × List (Option BV)
/-- What is seen behind a piece of code: how it ended, some slots, some blocks. -/
def viewC (ts ids : List Nat) (rs : List (Out × S)) : List CodeV := rs.map fun r => (r.1, ts.map fun t => r.2.tm.get t, ids.map fun i => (r.2.h.get i).map Blk.view)
/-- A piece of code, evaluated on all ways. -/
theorem ways_code {R : Rules} {ρ : Rho} (hR : R.Ok ρ) {sum : List (X × Bool) → Call} (hsum : ∀ pc, Told ρ pc → CallOk (ctx R ρ pc) (sum pc)) {F K N : Nat} {c : Code} {s : S} {t : PT} {ts ids : List Nat} {l : List (List (X × Bool) × Option (List CodeV))}
    (hev : ways (fun pc => (evCode (ctx R ρ pc) funT.get (evCall (ctx R ρ pc) funT.get (sum pc) F K) N F c s).map (viewC ts ids)) t [] = some l) {E : Env} {a : Act} {w : World} (hr : HRel E s.h w) (hρ : E.ρ = ρ) (hf : FreshU E s.nx) (htm : RelT E s.tm a.tmps) (hN : N ≤ a.tmps.size) :
    ∃ x ∈ l, Told ρ x.1 ∧ ∀ rs, x.2 = some rs → ∀ Q : Exit → Act → World → Prop,
      (∀ q ∈ rs, ∀ E' a' w' (s' : S), Goes E s.h s.nx w E' s'.h s'.nx w' → RelT E' s'.tm a'.tmps → a'.tmps.size = a.tmps.size → a'.defers = a.defers → q.2.1 = (ts.map fun t => s'.tm.get t) → q.2.2 = (ids.map fun i => (s'.h.get i).map Blk.view) → Q q.1.e a' w') → c.wp Tryz.prog Q a w := by
  obtain ⟨x, hx, hrun, ht⟩ := ways_ok hev (ρ := ρ) Told.nil
  refine ⟨x, hx, ht, fun rs hrs Q hQ => ?_⟩
  obtain ⟨r, hr1, hr2⟩ := Option.map_eq_some_iff.1 (hrun rs hrs)
  have hC := hR x.1 ht
  have hfun := funs_ok (C := ctx R ρ x.1) rfl
  have hcall := evCall_ok hC (show (ctx R ρ x.1).P.follows .mixedOrders = true from mixed) hfun (hsum x.1 ht) (F := F) K
  refine evCode_run hC (show (ctx R ρ x.1).P.follows .mixedOrders = true from mixed) hfun hcall c hr1 ⟨hr, hρ, hf, htm, hN⟩ fun o ho E' a' w' k => ?_
  refine hQ _ (by rw [← hr2]; exact List.mem_map.2 ⟨o, ho, rfl⟩) E' a' w' o.2 k.go k.tm k.size k.dfr rfl rfl
/-- Pieces of code, one behind the other. -/
def seqs : List Code → Code → Code
  | [], z => z
  | c :: cs, z => .seq c (seqs cs z)
theorem evCode_prefix {C : Ctx} (hC : C.Ok) (hm : C.P.follows .mixedOrders = true) {funs : Nat → Option Func} (hfun : FunOk C funs) {call : Call} (hcall : CallOk C call) {N F : Nat} {z : Code} : ∀ (cs : List Code) {s : S} {rs : List (Out × S)} {E : Env} {a : Act} {w : World} {Q : Exit → Act → World → Prop}, evCode C funs call N F (seqs cs .skip) s = some rs → At C E N s a w →
    (∀ r ∈ rs, ∀ E' a' w', After C E N s a w E' r.2 a' w' → Exit.then (z.wp C.P Q) Q r.1.e a' w') → (seqs cs z).wp C.P Q a w
  | [], s, rs, E, a, w, Q, he, hA, hQ => by
    obtain rfl := Option.some.inj he
    exact hQ _ (List.mem_singleton.2 rfl) E a w (After.refl hA)
  | c :: cs, s, rs, E, a, w, Q, he, hA, hQ => by
    replace he := Option.bind_eq_some_iff.1 he
    obtain ⟨r1, h1, he⟩ := he
    refine wp_seq (evCode_run hC hm hfun hcall c h1 hA fun r2 hr2 E1 a1 w1 k1 => ?_)
    obtain ⟨l, hl, hmem⟩ := flatO_mem he r2 hr2
    obtain ⟨o1, s1⟩ := r2
    cases o1 with
    | normal => exact evCode_prefix hC hm hfun hcall cs hl (k1.at hA) fun r3 hr3 E2 a2 w2 k2 => hQ r3 (hmem r3 hr3) E2 a2 w2 (k1.trans k2)
    | exit id =>
      obtain rfl := Option.some.inj hl
      exact hQ _ (hmem _ (List.mem_singleton.2 rfl)) E1 a1 w1 k1
    | ret =>
      obtain rfl := Option.some.inj hl
      exact hQ _ (hmem _ (List.mem_singleton.2 rfl)) E1 a1 w1 k1
/-- The beginning of a piece of code, evaluated on all ways. -/
theorem ways_prefix {R : Rules} {ρ : Rho} (hR : R.Ok ρ) {sum : List (X × Bool) → Call} (hsum : ∀ pc, Told ρ pc → CallOk (ctx R ρ pc) (sum pc)) {F K N : Nat} {cs : List Code} {s : S} {t : PT} {ts ids : List Nat} {l : List (List (X × Bool) × Option (List CodeV))}
    (hev : ways (fun pc => (evCode (ctx R ρ pc) funT.get (evCall (ctx R ρ pc) funT.get (sum pc) F K) N F (seqs cs .skip) s).map (viewC ts ids)) t [] = some l) {E : Env} {a : Act} {w : World} (hr : HRel E s.h w) (hρ : E.ρ = ρ) (hf : FreshU E s.nx) (htm : RelT E s.tm a.tmps) (hN : N ≤ a.tmps.size) :
    ∃ x ∈ l, Told ρ x.1 ∧ ∀ rs, x.2 = some rs → ∀ (z : Code) (Q : Exit → Act → World → Prop),
      (∀ q ∈ rs, ∀ E' a' w' (s' : S), Goes E s.h s.nx w E' s'.h s'.nx w' → RelT E' s'.tm a'.tmps → a'.tmps.size = a.tmps.size → a'.defers = a.defers → q.2.1 = (ts.map fun t => s'.tm.get t) → q.2.2 = (ids.map fun i => (s'.h.get i).map Blk.view) → Exit.then (z.wp Tryz.prog Q) Q q.1.e a' w') → (seqs cs z).wp Tryz.prog Q a w := by
  obtain ⟨x, hx, hrun, ht⟩ := ways_ok hev (ρ := ρ) Told.nil
  refine ⟨x, hx, ht, fun rs hrs z Q hQ => ?_⟩
  obtain ⟨r, hr1, hr2⟩ := Option.map_eq_some_iff.1 (hrun rs hrs)
  have hC := hR x.1 ht
  have hfun := funs_ok (C := ctx R ρ x.1) rfl
  have hcall := evCall_ok hC (show (ctx R ρ x.1).P.follows .mixedOrders = true from mixed) hfun (hsum x.1 ht) (F := F) K
  refine evCode_prefix hC (show (ctx R ρ x.1).P.follows .mixedOrders = true from mixed) hfun hcall cs hr1 ⟨hr, hρ, hf, htm, hN⟩ fun o ho E' a' w' k => ?_
  refine hQ _ (by rw [← hr2]; exact List.mem_map.2 ⟨o, ho, rfl⟩) E' a' w' o.2 k.go k.tm k.size k.dfr rfl rfl
/-- A slot, seen. -/
theorem slot_of_view {E : Env} {tm : T EV} {tmps : Array Value} (h : RelT E tm tmps) {t : Nat} {v : EV} (hv : tm.get t = some v) : v.rel E (tmps.getD t undef) := h t v hv
theorem tmps_eq {t : Array Value} {n : Nat} (h : t.size = n) : t = ((List.range n).map fun i => t.getD i undef).toArray := by
  apply Array.toList_inj.1
  apply List.ext_getElem?
  intro i
  rw [List.getElem?_map]
  by_cases hi : i < n
  · rw [List.getElem?_range hi, List.getElem?_eq_getElem (by rw [Array.length_toList]; omega)]
    simp [Array.getD, h, hi]
  · rw [List.getElem?_eq_none (by rw [Array.length_toList]; omega), List.getElem?_eq_none (by simp; omega)]
    rfl
theorem RelT.nil {E : Env} {tmps : Array Value} : RelT E .nil tmps := fun t v hv => by simp [T.get] at hv
theorem RelT.also {E : Env} {tm : T EV} {tmps : Array Value} (h : RelT E tm tmps) {d : Nat} {x : EV} (hx : x.rel E (tmps.getD d undef)) : RelT E (tm.set d x) tmps := fun t v hv => by
  rw [T.get_set] at hv
  split at hv
  · rename_i e
    subst e
    obtain rfl := Option.some.inj hv
    exact hx
  · exact h t v hv
end Go.Proofs.YtcnimekhpnejlaaGreat.Ev
