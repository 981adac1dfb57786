/- slices.Sorted of a map's keys (whole numbers) as the abstract machine's own function, out of the library's contract; conditions: that contract. -/
import Derived.Lib.SlKeysI
import Derived.Test.YtniabnfoflogaaaGreatDoorAmM04
import Derived.Test.YtniabnfoflogaaaGreatDoorChecked
set_option linter.unusedVariables false
set_option linter.unusedSimpArgs false
namespace Go.Proofs.YtniabnfoflogaaaGreatDoor.Am
open Go Go.RowKit
noncomputable section
def Ju(x:Int):List Int→List Int
 | []=>[x]
 | y::l=>bif Ib x y then x::y::l else y::Ju x l
def GS:List Int→List Int
 | []=>[]
 | x::l=>Ju x (GS l)
theorem FA(x:Int):∀l:List Int,(Ju x l).Perm (x::l)
 | []=>.refl _
 | y::l=>by
  unfold Ju
  cases Ib x y with
  | true=>exact .refl _
  | false=>exact((FA x l).cons y).trans (.swap x y l)
theorem EA:∀l:List Int,(GS l).Perm l
 | []=>.refl _
 | x::l=>(FA x _).trans ((EA l).cons x)
theorem Fa(x:Int):∀l:List Int,l.Pairwise (·≤·)→(Ju x l).Pairwise (·≤·)
 | [],_=>by simp[Ju]
 | y::l,h=>by
  unfold Ju
  have hl:=List.pairwise_cons.1 h
  rw[B4]
  by_cases hxy:x<y
  ·simp only[hxy,decide_true,cond_true]
   refine List.pairwise_cons.2 ⟨fun z hz=>?_,h⟩
   rcases List.mem_cons.1 hz with rfl | hz
   ·omega
   ·have:=hl.1 z hz;omega
  ·simp only[hxy,decide_false,cond_false]
   refine List.pairwise_cons.2 ⟨fun z hz=>?_,Fa x l hl.2⟩
   rcases List.mem_cons.1 ((FA x l).mem_iff.1 hz)with rfl | hz
   ·omega
   ·exact hl.1 z hz
theorem Ec:∀l:List Int,(GS l).Pairwise (·≤·)
 | []=>.nil
 | x::l=>Fa x _ (Ec l)
theorem LQ        {l m : List Int} (hp : l.Perm m) (hl : l.Pairwise (· ≤ ·)) (hm : m.Pairwise (· ≤ ·)) : l = m := by
  induction l generalizing m with
  | nil=>exact(List.nil_perm.1 hp).symm
  | cons a l ih =>
    cases m with
    | nil=>exact absurd hp.length_eq (by simp)
    | cons b m =>
      have hl':=List.pairwise_cons.1 hl
      have hm':=List.pairwise_cons.1 hm
      have hab:a=b:=by
        have h1:a∈b::m:=hp.mem_iff.1 Px
        have h2:b∈a::l:=hp.mem_iff.2 Px
        rcases List.mem_cons.1 h1 with e | h1
        · exact e
        · rcases List.mem_cons.1 h2 with e | h2
          · exact e.symm
          · have:=hm'.1 a h1;have:=hl'.1 b h2;omega
      subst hab
      rw[ih hp.cons_inv hl'.2 hm'.2]
theorem I5{l m:List Int}(h:l.Perm m):m.mergeSort (fun x y=>decide (x≤y))=GS l:=by
 refine LQ ((List.mergeSort_perm _ _).trans (h.symm.trans (EA l).symm)) ?_ (Ec l)
 have:=List.pairwise_mergeSort (le:=fun(x y:Int)=>decide (x≤y)) (by intro a b c;simp;omega) (by intro a b;simp;omega) m
 exact this.imp (by intro a b h;simpa using h)
def HS:List (AV×AV)→Option (List Int)
 | []=>some []
 | (.int .i64 n,_)::l=>(HS l).bind fun r=>some (n::r)
 | _=>none
def O1(n:Int):AV:=.int .i64 n
def FO(tI:TypeId)(ks:List Int)(s:AC):Option (AV×AC):=match ks with
 | []=>some (.slice none 0 (some 0),s)
 | k::ks=>AE (Nat.ble (k::ks).length 1000000) (some (.slice (some (s.next,0)) (k::ks).length none,newObj s (Bl tI 1 (AG.fill .leaf 0 ((GS (k::ks)).map O1)) (k::ks).length none true)))
def G1(g:FuncId)(kt tI:TypeId)(s:AC):List AV→Option (AV×AC)
 | [.func f [] [.ptr (some (i,o))]]=>AE (Nat.beq f g && Nat.beq o 0) <| (rowAt s i).bind fun r=>AE r.bytes <| (BV s i o).bind fun m=>match m with
  | .map none=>some (.slice none 0 (some 0),s)
  | .map (some j)=>(JA s kt j).bind fun es=>(HS es).bind fun ks=>FO tI ks s
  | _=>none
 | _=>none
section
variable{P:Program}{ρ ρ1 ρ2:Aa}{s s1 s2:AC}{w w1 w2:World}
def KQ(P:Program)(f g:FuncId)(kt tI:TypeId):Prop:=
 (∀ (Bm b nn:Nat) (D0:DataW Value) (w:World),Bm<w.heap.size→w.cell? ⟨Bm,0,none⟩=some (.map (some b))→w.ownsMap P kt Rv b nn D0→Maps.size D0≤1000000 →
  Calls P f #[.func (.func g) #[] #[.pointer (some ⟨Bm,0,none⟩)]] w fun e w'=>∃ (v:Value) (ss:List Int),e=.returned v∧ss.Perm (intKeys D0) ∧
   w'.ownsRow w.heap.size tI 1 v ss.length ((ss.mergeSort (fun x y=>decide (x≤y))).map fun n=>.int .i64 n)∧(v=.slice none 0 0↔ss=[])∧Below w.heap.size w w') ∧
 ∀ (Bm:Nat) (w:World),Bm<w.heap.size→w.cell? ⟨Bm,0,none⟩=some (.map none) →
  Calls P f #[.func (.func g) #[] #[.pointer (some ⟨Bm,0,none⟩)]] w fun e w'=>e=.returned (.slice none 0 0)∧Below w.heap.size w w'
theorem HT:∀ {es:List (AV×AV)}{ks:List Int}{l:List MapEntry},HS es=some ks→Bx ρ es l→l.map (·.key)=ks.map fun n=>Value.int .i64 n
  | [],ks,l,h,he=>by cases he;injection h with h;subst h;rfl
  | (k,v)::es,ks,l,h,he=>by
    cases he with
    | cons hk hv hs =>
      cases k<;>try (simp[HS]at h;done)
      rename_i q n
      cases q<;>try (simp[HS]at h;done)
      simp only[HS,Pk]at h
      obtain⟨r,h1,h2⟩:=h
      injection h2 with h2
      subst h2
      have:=HT h1 hs
      generalize hkk:(_:MapEntry).key=kk at hk
      cases hk
      simp[this,hkk]
theorem DM(h:Below w.heap.size w w1):w.grownBy w1 none:=⟨h.os,h.tape,h.output,h.size,fun k hk _=>h.block k hk⟩
theorem JX          {f g : FuncId} {kt tI : TypeId} (hko : C1     P kt = true) (hu : P.underlying kt = some (.int .i64)) (hc : KQ      P f g kt tI) (h : Ac  P ρ s w) (hf : AX     ρ s) {aS : List AV} {as' : Array Value} {v : AV} (hs : G1       g kt tI s aS = some (v, s1)) (has : AD    ρ aS as'.toList) :
    CallsIn Fence.wide 0 P f as' w (DF P ρ s w v s1):=by
  refine callsIn_wide.2 ?_
  unfold G1 at hs
  split at hs<;>first | (cases hs;done) | skip
  rename_i f' i o
  obtain⟨hg,hs⟩:=AA hs
  simp only[Pk,Bool.and_eq_true]at hs hg
  obtain⟨r,hrow,hs⟩:=hs
  obtain⟨hby,hs⟩:=AA hs
  simp only[Pk]at hs
  obtain⟨m,hm,hs⟩:=hs
  have e1:=Pq hg.1
  have e2:=Pq hg.2
  subst e1;subst e2
  obtain⟨l0⟩:=as'
  cases has with
  | cons h1 h2 =>
  cases h2
  cases h1 with
  | func ha hcap =>
  rename_i a' c'
  obtain⟨la⟩:=a'
  obtain⟨lc⟩:=c'
  cases ha
  cases hcap with
  | cons hp hn =>
  cases hn
  cases hp with
  | ptr hr =>
  rename_i rb
  have hok:BI ρ w r rb:=h.obj i _ rb (Ae hrow) hr
  have hoff:=hok.base hby
  obtain⟨m',hvm,hcell⟩:=GW h hr hm
  rw[hoff]at hcell ⊢
  have hlt:=h.lt i rb hr
  cases m<;>try (simp at hs;done)
  rename_i mj
  have nilDone:∀ (hs:some ((.slice none 0 (some 0),s):AV×AC)=some (v,s1)) (w':World),Below w.heap.size w w'→DF P ρ s w v s1 (.returned (.slice none 0 0)) w':=by
    intro hs w' hb
    injection hs with hs
    injection hs with q1 q2
    subst q1;subst q2
    obtain⟨g1,g2⟩:=h.grown (DM hb)
    exact⟨ρ,.sliceNil,g1,g2⟩
  cases mj with
  | none =>
    cases hvm
    refine(hc.2 rb.b w hlt hcell).mono ?_
    rintro e w' ⟨rfl,hb⟩
    exact nilDone hs w' hb
  | some j =>
    simp only[Pk]at hs
    obtain⟨es,hes,ks,hks,hs⟩:=hs
    cases hvm with
    | map hrj =>
    rename_i rj
    obtain⟨ed,cd,d1,d2,⟨ld,d3,d4⟩,d5⟩:=(show FR P ρ w kt es rj from h.obj j _ rj (FE hes) hrj).ex
    have hkl:=HT hks d4
    have hlenk:ks.length=ed.size:=by have:=congrArg List.length hkl;have:=d3.length_eq;simp at *;omega
    have hk6:ks.length≤1000000:=by
      cases ks with
      | nil=>simp
      | cons k ks =>
        simp only[FO]at hs
        have:=(AA hs).1
        simpa[Pn]using this
    have hmax:(1000000:Nat)≤maxLen:=by unfold maxLen;omega
    have od:=M8 d1 d2 d5 (by omega)
    have hsz:Maps.size (DataW.map ((ed.toList.map (WideElems.rg P kt Rv)).foldr DataW.insert []))=ed.size:=by
      show((ed.toList.map (WideElems.rg P kt Rv)).foldr DataW.insert []).length=_
      rw[(Go.WideShapes.sorted_perm _).length_eq]
      simp
    have hints:(intKeys (DataW.map ((ed.toList.map (WideElems.rg P kt Rv)).foldr DataW.insert []))).Perm ks:=by
      show(((ed.toList.map (WideElems.rg P kt Rv)).foldr DataW.insert []).map fun p=>Go.intOf p.1).Perm ks
      refine((Go.WideShapes.sorted_perm _).map _).trans ?_
      rw[List.map_map]
      have:((ld.map fun e=>Go.intOf (WideElems.rg P kt Rv e).1))=ks:=by
        have:∀ (L:List MapEntry) (K:List Int),(∀e∈L,∃l,keyOf P kt e.key=some l)→L.map (·.key)=K.map (fun n=>Value.int .i64 n)→(L.map fun e=>Go.intOf (WideElems.rg P kt Rv e).1)=K:=by
          intro L
          induction L with
          | nil=>intro K _ hK;cases K with | nil=>rfl | cons=>simp at hK
          | cons e L ih =>
            intro K hty hK
            cases K with
            | nil=>simp at hK
            | cons n K =>
              simp only[QA,List.cons.injEq]at hK
              obtain⟨l,hl⟩:=hty e Px
              rw[QA,ih K (fun x hx=>hty x (P7 _ hx)) hK.2,O8 hl]
              congr 1
              rw[hK.1]at hl
              simp only[keyOf,hu,mapKey]at hl
              split at hl
              · injection hl with hl;subst hl;rfl
              · cases hl
        exact this ld ks (fun e he=>d5 e (d3.mem_iff.1 he)) hkl
      rw[← this]
      exact d3.symm.map _
    refine(hc.1 rb.b rj.b _ _ w hlt hcell od (by rw[hsz];omega)).mono ?_
    rintro e w' ⟨v',ss,rfl,hperm,hrow',hnil,hb⟩
    have hss:ss.Perm ks:=hperm.trans hints
    cases ks with
    | nil =>
      have:ss=[]:=List.perm_nil.1 hss
      rw[hnil.2 this]
      exact nilDone hs w' hb
    | cons k ks =>
      simp only[FO]at hs
      obtain⟨_,hs⟩:=AA hs
      injection hs with hs
      injection hs with q1 q2
      subst q1;subst q2
      have hne:ss≠[]:=fun e=>by subst e;exact absurd (List.nil_perm.1 hss) (by simp)
      rw[I5 hss.symm]at hrow'
      have hl:ss.length=(k::ks).length:=hss.length_eq
      rcases hrow'.2 with⟨q,_⟩ | ⟨gb,cap,cur,rfl,hbase,hgb,r1,r2,r3,r4⟩
      · exact absurd (hnil.1 q) hne
      · rw[hl]at r1 r4 ⊢
        have hilen:(GS (k::ks)).length=(k::ks).length:=(EA _).length_eq
        generalize hn:(k::ks).length=n at r1 r4 hilen ⊢
        have hglt:gb<w'.heap.size:=(Array.getElem?_eq_some_iff.1 hgb).1
        obtain⟨g1,g2⟩:=h.grown (DM hb)
        let rbn:RB:=⟨gb,0,cap,1⟩
        have hfn:=(hf s.next (Pl _)).1
        have hle:=Ao (rb:=rbn) hfn
        have hrok:BI (A3 ρ s.next rbn) w' { elem:=tI,sz:=1,n:=n,c:=AG.fill .leaf 0 ((GS (k::ks)).map O1),spare:=true,mode:=.own,par:=none,bytes:=true } rbn:=by
          refine⟨?_,r1,rfl,(fun hh=>by cases hh),fun _=>⟨cur,hgb,by simp only[rbn];omega⟩,fun _=>rfl,(fun g hg=>by cases hg),fun p hp=>by cases hp⟩
          intro q u hq hu'
          simp only at hq
          simp only[AG.get_fill,Ps,Pv,true_and,Nat.sub_zero,QC,hilen]at hu'
          rw[if_pos hq,P3]at hu'
          obtain⟨x,hx,hx2⟩:=Option.map_eq_some_iff.1 hu'
          subst hx2
          refine⟨.int .i64 x,?_,.int _ _⟩
          have:(cur.toList.take (n * 1))[q]? = some (Value.int .i64 x):=by rw[r4,P3,hx];rfl
          rw[QP (by omega)]at this
          simp only[World.cell?,rbn,Pv,hgb]
          simpa using this
        refine⟨A3 ρ s.next rbn,.sliceOpen (AJ _ _) (Nat.one_pos) r1 (by simp[rbn]) (by simp[rbn]),⟨?_,?_,?_,?_⟩,?_⟩
        · intro x ox rx hx hrx
          rw[Ab]at hx
          by_cases e:x=s.next
          · subst e
            rw[if_pos rfl]at hx
            injection hx with hx
            rw[AJ]at hrx
            injection hrx with hrx
            subst hx;subst hrx
            exact hrok
          · rw [if_neg e] at hx
            rw[AI rbn e]at hrx
            exact(g1.obj x ox rx hx hrx).mono hle rfl
        · intro x rx hrx
          by_cases e:x=s.next
          · subst e
            rw[AJ]at hrx
            injection hrx with hrx
            subst hrx
            exact hglt
          · rw[AI rbn e]at hrx
            exact g1.lt x rx hrx
        · intro x y ox oy rx ry hxy hx hy hrx hry hbb hw
          rw[Ab]at hx hy
          by_cases ex:x=s.next
          · subst ex
            have ey:y≠s.next:=fun e=>hxy e.symm
            rw[AJ]at hrx
            injection hrx with hrx
            subst hrx
            rw[AI rbn ey]at hry
            have:=h.lt y ry hry
            simp only[rbn]at hbb
            omega
          · by_cases ey : y = s.next
            · subst ey
              rw[AJ]at hry
              injection hry with hry
              subst hry
              rw[AI rbn ex]at hrx
              have:=h.lt x rx hrx
              simp only[rbn]at hbb
              omega
            · rw [if_neg ex] at hx
              rw[if_neg ey]at hy
              rw[AI rbn ex]at hrx
              rw[AI rbn ey]at hry
              exact g1.sep x y ox oy rx ry hxy hx hy hrx hry hbb hw
        · intro x ox g hx hgo
          rw[Ab]at hx
          by_cases e:x=s.next
          · subst e;exact⟨_,AJ _ _⟩
          · rw[if_neg e]at hx
            obtain⟨r',hr'⟩:=h.glb x ox g hx hgo
            exact⟨r',hle _ _ hr'⟩
        · refine ⟨hle, ?_, by simp [newObj], hb.size, hb.os, hb.tape, hb.output, fun b hb' _ => hb.block b hb', ?_, ?_⟩
          · intro x hx hxr
            have:x≠s.next:=by simp[newObj]at hxr;omega
            rw[AI rbn this];exact hx
          · rintro b ⟨x, ox, rx, hx, hw, hrx, rfl⟩
            rw[Ab]at hx
            by_cases e:x=s.next
            · subst e
              rw[AJ]at hrx
              injection hrx with hrx
              subst hrx
              exact .inr hbase
            · rw [if_neg e] at hx
              rw[AI rbn e]at hrx
              exact .inl ⟨x,ox,rx,hx,hw,hrx,rfl⟩
          · intro x _ hx
            rw[Ab,if_neg (by simp[newObj]at hx;omega)]
end
end
end Go.Proofs.YtniabnfoflogaaaGreatDoor.Am
set_option linter.unusedVariables false
set_option linter.unusedSimpArgs false
namespace Go.Proofs.YtniabnfoflogaaaGreatDoor.Am
open Go Go.Proofs Go.RowKit
noncomputable section
theorem Ma(m:Nat):AnyZI.SortsIn Tryz.prog DR Fence.wide m:=
  ⟨fun blk off cap ss W hH hblk hsz=>callsIn_wide.2 (AnyM.slices_Sort_int I7 blk off cap ss W hH hblk hsz),
   fun p cap W=>callsIn_wide.2 (AnyM.slices_Sort_int_none I7 p cap W)⟩
theorem ND:KQ Tryz.prog 59 86 3 3:=by
  refine⟨fun Bm b nn D0 w hBm hm hown hsz=>?_,fun Bm w hBm hm=>?_⟩
  · have hseq := AnyZI.keys_gives (ρ := C2)           { I6       with } Fence.wide 2 trivial rfl (by omega) Bm b nn D0 w hBm hm hown
    have cS:=AnyZI.sorted_in GU Fence.wide 5 trivial trivial trivial trivial rfl (by omega) (Ma _) (enters_of Tryz.func65 (by kernel_rfl) rfl) 86 #[.pointer (some ⟨Bm,0,none⟩)] trivial (enters_of Tryz.func86 (by kernel_rfl) rfl) _ _ (Pu hsz (by unfold maxLen;omega)) (by omega) _ hseq
    exact callsIn_wide.1 cS
  · have hseq := AnyZI.keys_gives_nil (ρ := C2)           { I6       with } Fence.wide 2 trivial rfl Bm w hBm hm
    have cS:=AnyZI.sorted_in GU Fence.wide 5 trivial trivial trivial trivial rfl (by omega) (Ma _) (enters_of Tryz.func65 (by kernel_rfl) rfl) 86 #[.pointer (some ⟨Bm,0,none⟩)] trivial (enters_of Tryz.func86 (by kernel_rfl) rfl) _ 0 (Ps _) (by omega) _ hseq
    refine(callsIn_wide.1 cS).mono ?_
    rintro e w' ⟨v,ss,rfl,hS,_,hnil,hb⟩
    rw[hnil.2 hS]
    exact⟨rfl,hb⟩
def LJ:Lc:=fun f xs s=>bif Nat.beq f 59 then G1 86 3 3 s xs else none
theorem Kk:Cu Tryz.prog LJ:=by
 intro ρ s w f xs v s1 as' hc hi hf ha
 unfold LJ at hc
 cases h2:Nat.beq f 59 with
 | true =>
  rw[h2]at hc
  have:=Pq h2
  subst this
  exact⟨⟨_,_,Tryz.func59,rfl⟩,JX (by kernel_rfl) Tryz.underlying3 ND hi hf hc ha⟩
 | false=>rw[h2]at hc;cases hc
def PO:EQ:=⟨Tryz.prog,LJ⟩
end
end Go.Proofs.YtniabnfoflogaaaGreatDoor.Am
set_option linter.unusedVariables false
set_option linter.unusedSimpArgs false
namespace Go.Proofs.YtniabnfoflogaaaGreatDoor.Am
open Go
noncomputable section
def F3(fs:List FuncId)(T:List Row):Lc:=fun f xs s=>bif fs.any (Nat.beq f)then (Ke T f xs).bind fun r=>some (r,s)else none
theorem J1         {P : Program} (hm : P.follows .mixedOrders = true) (hng : CA      P) {E : EQ}  (hE : E.P = P) (hnat : Cu     P E.nat) {n : Nat} {fs : List FuncId} {T : List Row}
    (hT:∀r∈T,E9 r.args=true∧Iz r.res=true∧N3 r.res ((CH E n).call r.f r.args ⟨0,.leaf⟩)=true):Cu P (F3 fs T):=by
  intro ρ s w f xs v s1 as' hc h hf ha
  unfold F3 at hc
  cases hfs:fs.any (Nat.beq f)with
  | false=>rw[hfs]at hc;cases hc
  | true =>
    rw[hfs]at hc
    simp only[cond_true,Pk]at hc
    obtain⟨u,hu,hc⟩:=hc
    injection hc with hc
    injection hc with e1 e2
    subst e1;subst e2
    obtain⟨r,hr,rfl,rfl,rfl⟩:=GN hu
    obtain⟨p1,p2,p3⟩:=hT r hr
    cases hrun:(CH E n).call r.f r.args ⟨0,.leaf⟩with
    | none=>rw[hrun]at p3;cases p3
    | some p =>
      obtain⟨v0,s2⟩:=p
      rw[hrun]at p3
      have hv0:r.res=v0:=GJ (show Jp r.res v0=true from p3)
      subst hv0
      let ρ0:Aa:=fun _=>none
      have hinv:Ac P ρ0 ⟨0,.leaf⟩ w:=
        ⟨fun i o x hi hx=>(by cases hx),fun i x hx=>(by cases hx),fun i j oi oj ri rj hne hi hj hri hrj=>(by cases hri),fun i o g' hi _=>(by cases (show(AG.leaf:AG Ad).get i=some o from hi))⟩
      have hfr:AX ρ0 ⟨0,.leaf⟩:=fun i hi=>⟨rfl,rfl⟩
      have hcall:=(Pj hm hng hE hnat n).call ρ0 ⟨0,.leaf⟩ w r.f r.args r.res s2 as' hrun hinv hfr (D8 p1 ha)
      refine⟨hcall.1,CallsIn.mono hcall.2 ?_⟩
      intro e w' he
      cases e with
      | panicked c=>exact he.elim
      | outgrown=>exact he.elim
      | returned v' =>
        obtain⟨ρ',k1,k2,k3⟩:=he
        have hno:∀b,¬ DC ρ0 (⟨0,.leaf⟩:AC) b:=by
          rintro b ⟨i,o,x,hi,hw,hx,_⟩
          cases hx
        obtain⟨g1,g2⟩:=h.grown (w1:=w') ⟨k3.os,k3.tape,k3.output,k3.size,fun b hb' _=>k3.keep b hb' (hno b)⟩
        exact⟨ρ,E8 p2 k1,g1,g2⟩
end
end Go.Proofs.YtniabnfoflogaaaGreatDoor.Am
