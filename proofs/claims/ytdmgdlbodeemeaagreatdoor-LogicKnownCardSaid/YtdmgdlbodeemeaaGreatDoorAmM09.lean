/- strings.TrimLeft by one sign, and strconv.Itoa of small numbers, that the abstract machine runs by itself; conditions: none. -/
import Derived.Test.YtdmgdlbodeemeaaGreatDoorAmM05
import Derived.Test.YtdmgdlbodeemeaaGreatDoorAmM08
set_option linter.unusedVariables false
set_option linter.unusedSimpArgs false
namespace Go.Proofs.YtdmgdlbodeemeaaGreatDoor.Am
open Go Go.Proofs Go.RowKit
noncomputable section
def IV(c:Nat):List Nat→List Nat
 | []=>[]
 | x::l=>bif Nat.beq x c then IV c l else x::l
theorem K9(c:UInt8):∀l:List UInt8,IV c.toNat (l.map fun(x:UInt8)=>x.toNat)=(Go.Lib.trimLeftB l c).map fun(x:UInt8)=>x.toNat
  | []=>rfl
  | x::l=>by
    unfold Go.Lib.trimLeftB
    rw[fm,List.dropWhile_cons]
    unfold IV
    by_cases h:x=c
    · subst h
      simp only[beq_self_eq_true,if_true]
      rw[show Nat.beq x.toNat x.toNat=true from by simp,cond_true]
      exact K9 x l
    · have h1 : (x == c) = false := by simpa using h
      have h2:Nat.beq x.toNat c.toNat=false:=Dm fun e=>h (UInt8.toNat_inj.1 e)
      rw[h1,h2]
      simp
def M5(s:AD):List AV→Option (AV×AD)
 | [.str l,.str [c]]=>AG (Nat.blt c 128) (some (.str (IV c l),s))
 | _=>none
def Pm(n:Nat):List Nat:=bif Nat.blt n 10 then [48+n]else [48+n / 10,48+n % 10]
theorem S5(n:Nat)(h:n<100):Pm n=(Go.Lib.decDigits n).map fun(x:UInt8)=>x.toNat:=by
 have e:∀k,k<10→(UInt8.ofNat (48+k)).toNat=48+k:=fun k hk=>by
  show(48+k) % 256=48+k
  omega
 unfold Pm
 by_cases h1:n<10
 ·rw[Go.Lib.decDigits_one h1,show Nat.blt n 10=true from by simpa[fb]using h1,cond_true]
  simp only[fm,List.map_nil,e n h1]
 ·rw[Go.Lib.decDigits_two h1 h,show Nat.blt n 10=false from by cases hb:Nat.blt n 10 with | false=>rfl | true=>exact absurd (by simpa[fb]using hb) h1,cond_false]
  simp only[fm,List.map_nil,e (n / 10) (by omega),e (n % 10) (by omega)]
def Pl(s:AD):List AV→Option (AV×AD)
 | [.int .i64 (.ofNat n)]=>AG (Nat.blt n 100) (some (.str (Pm n),s))
 | _=>none
section
variable{ρ:A5}{s s1:AD}{w:World}
theorem Lj(h:Aw Tryz.prog ρ s w){ys:List AV}{as':Array Value}{v:AV}(hs:M5 s ys=some (v,s1))(has:AJ ρ ys as'.toList):CallsIn Fence.wide 0 Tryz.prog 249 as' w (CS Tryz.prog ρ s w v s1):=by
 refine callsIn_wide.2 ?_
 unfold M5 at hs
 split at hs<;>first | (cases hs;done) | skip
 rename_i l c
 obtain⟨hg,hs⟩:=AA hs
 injection hs with hs
 injection hs with q1 q2
 subst q1;subst q2
 obtain⟨l0⟩:=as'
 cases has with
 | cons h1 h2 =>
 cases h2 with
 | cons h2 h3 =>
 cases h3
 cases h1 with
 | str h1 =>
 cases h2 with
 | str h2 =>
 rename_i b1 b2
 obtain⟨⟨c8⟩⟩:=b2
 have hc8:c8.length=1:=by have:=congrArg List.length h2;simpa using this
 match c8,hc8 with
 | [x],_ =>
 have hx:x.toNat=c:=by simpa using h2
 subst hx
 refine Calls.mono (Any.strings_TrimLeft_one aH b1 x (by simpa[fb]using hg) w) ?_
 rintro e w' ⟨rfl,rfl⟩
 refine⟨ρ,.str ?_,h,Fr.refl _ _ _⟩
 rw[← h1,K9]
theorem S0(h:Aw Tryz.prog ρ s w){ys:List AV}{as':Array Value}{v:AV}(hs:Pl s ys=some (v,s1))(has:AJ ρ ys as'.toList):CallsIn Fence.wide 0 Tryz.prog 115 as' w (CS Tryz.prog ρ s w v s1):=by
 refine callsIn_wide.2 ?_
 unfold Pl at hs
 split at hs<;>first | (cases hs;done) | skip
 rename_i n
 obtain⟨hg,hs⟩:=AA hs
 injection hs with hs
 injection hs with q1 q2
 subst q1;subst q2
 obtain⟨l0⟩:=as'
 cases has with
 | cons h1 h2 =>
 cases h2
 cases h1
 have hn:n<100:=by simpa[fb]using hg
 refine Calls.mono (Any.strconv_Itoa_small Xj n hn w) ?_
 rintro e w' ⟨rfl,rfl⟩
 refine⟨ρ,.str ?_,h,Fr.refl _ _ _⟩
 rw[S5 n hn]
end
theorem R5:∀l:List Nat,IV 48 l=HH l
 | []=>rfl
 | x::l=>by unfold IV HH;rw[R5 l]
def N0:Gh:=Sl 249 fun xs s=>M5 s xs
theorem X6:B0 Tryz.prog N0:=E0 fun ρ s w xs v s1 xs' hc hi hf ha=>⟨⟨_,_,Tryz.func249,rfl⟩,Lj hi hc ha⟩
def bR:Cf:=⟨Tryz.prog,N0⟩
theorem cW:Al bR:=⟨rfl,fun f xs s hf=>by
 have h1:Nat.beq f 249=false:=Dm fun e=>hf (by rw[e];decide)
 show N0 f xs s=none
 simp[N0,Sl,h1]⟩
theorem dD(l:List Nat)(s:AD)(K:AV→AD→Prop)(h:K (.str (HH l)) s):WF bR 249 [.str l,.str [48]] K s:=by
 refine WF.nat (p:=(.str (IV 48 l),s)) ?_ (by rw[R5];exact h)
 show N0 249 [AV.str l,AV.str [48]] s=some (AV.str (IV 48 l),s)
 rfl
def Pv(s:AD):List AV→Option (AV×AD)
 | [v]=>(Ih s v).bind fun l=>AG (Nat.ble l.length 1000 && Nat.blt (AC l) (1000000000 ^ 7)) (some (.str (X5 7 (AC l)),s))
 | _=>none
section
variable{ρ:A5}{s:AD}{w:World}
theorem XT{N:Gh}(hN:B0 Tryz.prog N){f:FuncId}{xs:List AV}{xs':Array Value}(h:Aw Tryz.prog ρ s w)(hf:Ag ρ s)(hxs:AJ ρ xs xs'.toList){v:AV}(hv:IW v=true)(hw:WF ⟨Tryz.prog,N⟩ f xs (fun u s'=>u=v) (frz s.next s.heap)):
  (∃fn c,Tryz.prog.funcs[f]? = some fn∧fn.body=some c)∧CallsIn Fence.wide 0 Tryz.prog f xs' w (CS Tryz.prog ρ s w v s):=by
 obtain⟨n,p,hrun,hK⟩:=hw
 have hcall:=(ep JD (FI HU) rfl hN n).call ρ (frz s.next s.heap) w f xs p.1 p.2 xs' hrun (h.frz _) hf.frz hxs
 refine⟨hcall.1,CallsIn.mono hcall.2 ?_⟩
 intro e w' he
 cases e with
 | panicked c=>exact he.elim
 | outgrown=>exact he.elim
 | returned v' =>
  obtain⟨ρ',k1,k2,k3⟩:=he
  obtain⟨g1,g2⟩:=h.grown (w1:=w') ⟨k3.os,k3.tape,k3.output,k3.size,fun b hb _=>k3.keep b hb (H5 Tryz.prog _ _ b)⟩
  rw[hK]at k1
  exact⟨ρ,Co hv k1,g1,g2⟩
end
theorem X4:B0 Tryz.prog (Sl 197 fun xs s=>Pv s xs):=E0 fun ρ s w xs v s1 xs' hc hi hf ha=>by
 unfold Pv at hc
 split at hc
 ·simp only[fQ]at hc
  obtain⟨l,hl,hp⟩:=hc
  obtain⟨hg,hp⟩:=AA hp
  simp only[Bool.and_eq_true,fT,fb]at hg
  injection hp with hp
  injection hp with e1 e2
  subst e1;subst e2
  obtain⟨l1,l2⟩:=Ej hl
  exact XT X6 hi hf ha rfl (YB cW dD l1 hg.1 l2 hg.2 (by decide) fun s' _=>rfl)
 ·cases hc
def X1:Gh:=YD bW (YD (Sl 249 fun xs s=>M5 s xs) (YD (Sl 115 fun xs s=>Pl s xs) (Sl 197 fun xs s=>Pv s xs)))
theorem Nz:B0 Tryz.prog X1:=FK X0 (FK (E0 fun ρ s w xs v s1 xs' hc hi hf ha=>⟨⟨_,_,Tryz.func249,rfl⟩,Lj hi hc ha⟩)
 (FK (E0 fun ρ s w xs v s1 xs' hc hi hf ha=>⟨⟨_,_,Tryz.func115,rfl⟩,S0 hi hc ha⟩) X4))
def eS:Cf:=⟨Tryz.prog,X1⟩
end
end Go.Proofs.YtdmgdlbodeemeaaGreatDoor.Am
set_option linter.unusedVariables false
set_option linter.unusedSimpArgs false
namespace Go.Proofs.YtdmgdlbodeemeaaGreatDoor.Am
open Go
noncomputable section
def Mk(fs:List FuncId)(T:List Row):Gh:=fun f xs s=>bif fs.any (Nat.beq f)then (SA T f xs).bind fun r=>some (r,s)else none
theorem Pw         {P : Program} (hm : P.follows .mixedOrders = true) (hng : Dk      P) {E : Cf}  (hE : E.P = P) (hnat : B0     P E.nat) {n : Nat} {fs : List FuncId} {T : List Row}
    (hT:∀r∈T,H4 r.args=true∧IW r.res=true∧bl r.res ((Ck E n).call r.f r.args ⟨0,.leaf⟩)=true):B0 P (Mk fs T):=by
  intro ρ s w f xs v s1 as' hc h hf ha
  unfold Mk at hc
  cases hfs:fs.any (Nat.beq f)with
  | false=>rw[hfs]at hc;cases hc
  | true =>
    rw[hfs]at hc
    simp only[cond_true,fQ]at hc
    obtain⟨u,hu,hc⟩:=hc
    injection hc with hc
    injection hc with e1 e2
    subst e1;subst e2
    obtain⟨r,hr,rfl,rfl,rfl⟩:=Jq hu
    obtain⟨p1,p2,p3⟩:=hT r hr
    cases hrun:(Ck E n).call r.f r.args ⟨0,.leaf⟩with
    | none=>rw[hrun]at p3;cases p3
    | some p =>
      obtain⟨v0,s2⟩:=p
      rw[hrun]at p3
      have hv0:r.res=v0:=E7 (show Ep r.res v0=true from p3)
      subst hv0
      let ρ0:A5:=fun _=>none
      have hinv:Aw P ρ0 ⟨0,.leaf⟩ w:=
        ⟨fun i o x hi hx=>(by cases hx),fun i x hx=>(by cases hx),fun i j oi oj ri rj hne hi hj hri hrj=>(by cases hri),fun i o g' hi _=>(by cases (show(AH.leaf:AH Af).get i=some o from hi))⟩
      have hfr:Ag ρ0 ⟨0,.leaf⟩:=fun i hi=>⟨rfl,rfl⟩
      have hcall:=(ep hm hng hE hnat n).call ρ0 ⟨0,.leaf⟩ w r.f r.args r.res s2 as' hrun hinv hfr (Gl p1 ha)
      refine⟨hcall.1,CallsIn.mono hcall.2 ?_⟩
      intro e w' he
      cases e with
      | panicked c=>exact he.elim
      | outgrown=>exact he.elim
      | returned v' =>
        obtain⟨ρ',k1,k2,k3⟩:=he
        have hno:∀b,¬ FR ρ0 (⟨0,.leaf⟩:AD) b:=by
          rintro b ⟨i,o,x,hi,hw,hx,_⟩
          cases hx
        obtain⟨g1,g2⟩:=h.grown (w1:=w') ⟨k3.os,k3.tape,k3.output,k3.size,fun b hb' _=>k3.keep b hb' (hno b)⟩
        exact⟨ρ,Co p2 k1,g1,g2⟩
end
end Go.Proofs.YtdmgdlbodeemeaaGreatDoor.Am
