/- strconv.Itoa of any number, slices.Sort of texts, that the abstract machine runs by itself, out of the library's contracts; conditions: none. -/
import Derived.Test.YtoaaclpjkelofaaGreatDoorAmM08
import Derived.Test.YtoaaclpjkelofaaGreatDoorAmM05
import Derived.Test.YtoaaclpjkelofaaGreatDoorAmM06
import Derived.Test.YtoaaclpjkelofaaGreatDoorAmM01
import Derived.Test.YtoaaclpjkelofaaGreatDoorProg
import Derived.Deep.RegionHeld
import Derived.Tactics
import Derived.Tactics2
import Derived.WideKeyEntry
import Derived.Test.YtoaaclpjkelofaaGreatDoorAmM04
set_option linter.unusedVariables false
set_option linter.unusedSimpArgs false
namespace Go.Proofs.YtoaaclpjkelofaaGreatDoor.Am
open Go Go.Proofs Go.RowKit
noncomputable section
def nW:List AV:=[.int .u64 1,.int .u64 10,.int .u64 100,.int .u64 1000,.int .u64 10000,.int .u64 100000,.int .u64 1000000,.int .u64 10000000,.int .u64 100000000,.int .u64 1000000000,.int .u64 10000000000,.int .u64 100000000000,.int .u64 1000000000000,.int .u64 10000000000000,.int .u64 100000000000000,.int .u64 1000000000000000,.int .u64 10000000000000000,.int .u64 100000000000000000,.int .u64 1000000000000000000,.int .u64 10000000000000000000]
section
variable{ρ:A5}{s s1:AD}{w w1:World}
theorem As.growS(h:As Tryz.prog ρ s w)(os:Array Obj):As Tryz.prog ρ s (Go.Sort.grow w os)∧Fr ρ s w ρ s (Go.Sort.grow w os):=
 h.grown ⟨rfl,rfl,rfl,by simp[Go.Sort.grow],fun k hk _=>by simp[Go.Sort.grow,Array.getElem?_append_left hk]⟩
theorem As.aheadS(h:As Tryz.prog ρ s w)(n:Nat):As Tryz.prog ρ s (Go.Sort.ahead w n)∧Fr ρ s w ρ s (Go.Sort.ahead w n):=
 h.grown ⟨rfl,rfl,rfl,tJ _,fun k hk _=>rfl⟩
def nH (n:Int):List Nat:=(Go.Lib.itoa n).map fun(x:UInt8)=>x.toNat
def VE (s:AD):List AV→Option (AV×AD)
 | [.int .i64 n]=>AF (BM .i64 n && pR s 1 nW) (some (.str (nH n),s))
 | _=>none
theorem lK : Tryz.prog.globalNamed "internal/strconv.uint64pow10" = some 1 := by kernel_rfl
theorem Yw{n:Int}(h:BM .i64 n=true):i64 n:=by
  unfold BM at h
  unfold i64
  cases n with
  | ofNat m => have : m ≤ 9223372036854775807 := by simpa [tK]         using h
               simp only[ut];constructor<;>omega
  | negSucc m => have : m ≤ 9223372036854775807 := by simpa [tK]         using h
                 constructor<;>omega
theorem Yy        (h : As  Tryz.prog ρ s w) {ys : List AV} {as' : Array Value} {v : AV} (hs : VE     s ys = some (v, s1)) (has : AJ    ρ ys as'.toList) : CallsIn Fence.wide 0 Tryz.prog 59 as' w (Bk     Tryz.prog ρ s w v s1) := by
  refine callsIn_wide.2 ?_
  unfold VE at hs
  split at hs<;>first | (cases hs;done) | skip
  rename_i n
  obtain⟨hg,hs⟩:=AA hs
  injection hs with hs
  injection hs with q1 q2
  subst q1;subst q2
  simp only[Bool.and_eq_true]at hg
  obtain⟨hn,hg⟩:=hg
  obtain⟨l0⟩:=as'
  cases has with
  | cons h1 h2 =>
  cases h2
  cases h1
  obtain⟨n1,n2⟩:=Yw hn
  obtain⟨r0,k1,k2,k3,k5,k4⟩:=fz hg
  obtain⟨rbp,hrbp⟩:=h.glb 1 _ 1 k1 k3
  have hok:BF ρ w r0 rbp:=h.obj 1 _ rbp k1 hrbp
  obtain⟨hb,hoff,cs,e,pl,hblk,hsz⟩:=hok.gl 1 k3
  have hcs:cs.size=20:=by rw[hsz,hok.tight k5,k2];rfl
  have htab : Go.Lib.TabIs Tryz.prog w "internal/strconv.uint64pow10" .u64 Go.Lib.pow10Tab := by
    unfold Go.Lib.TabIs World.var?
    rw[lK,Option.bind_some]
    rw[hb]at hblk
    rw[hblk]
    refine congrArg some ?_
    apply Array.ext_getElem?
    intro k
    rcases tL k 20 with hk | hk
    · have hp:nW[k]? = some (.int .u64 ((10 ^ k:Nat):Int)):=by
        have:k=0∨k=1∨k=2∨k=3∨k=4∨k=5∨k=6∨k=7∨k=8∨k=9∨k=10∨k=11∨k=12∨k=13∨k=14∨k=15∨k=16∨k=17∨k=18∨k=19:=by omega
        rcases this with rfl | rfl | rfl | rfl | rfl | rfl | rfl | rfl | rfl | rfl | rfl | rfl | rfl | rfl | rfl | rfl | rfl | rfl | rfl | rfl<;>rfl
      obtain⟨v,g1,g2⟩:=hok.cells k _ (by rw[k2];exact hk) (by rw[k4 k hk];exact hp)
      cases g2
      rw[hb,hoff,tR]at g1
      have g1:cs[k]? = some (.int .u64 ((10 ^ k:Nat):Int)):=by simpa[World.cell?,hblk]using g1
      rw[g1]
      simp[Go.Lib.pow10Tab,hk]
    · rw[Array.getElem?_eq_none (by omega),Array.getElem?_eq_none (by simp[Go.Lib.pow10Tab];exact hk)]
  refine Calls.mono (Any.strconv_Itoa kW n n1 (by omega) w htab) ?_
  rintro e w' ⟨rfl,k,os,rfl⟩
  obtain⟨i1,f1⟩:=h.aheadS k
  obtain⟨i2,f2⟩:=i1.growS os
  exact⟨ρ,.str (by unfold nH;simp),i2,f1.trans f2⟩
end
def VA(x:List Nat):List (List Nat)→List (List Nat)
 | []=>[x]
 | y::l=>bif Dw y x then y::VA x l else x::y::l
def Nz:List (List Nat)→List (List Nat)
 | []=>[]
 | x::l=>VA x (Nz l)
theorem Pa        : ∀ x y : List Nat, Dw    x y = decide (x < y)
  | [],[]=>by simp[Dw]
  | [],_::_=>by simp[Dw]
  | _::_,[]=>by simp[Dw]
  | a::x,b::y=>by
    have ih:=Pa x y
    unfold Dw
    rw[Bool.eq_iff_iff,decide_eq_true_eq,List.cons_lt_cons_iff]
    by_cases h1:a<b
    · simp[Py h1,h1]
    · have hb:Nat.blt a b=false:=by
        cases hb:Nat.blt a b with
        | false=>rfl
        | true=>exact absurd (by simpa[tP]using hb) h1
      rw[hb]
      by_cases h2:a=b
      · subst h2;simp[ih]
      · rw[Cs h2];simp[h1,h2]
theorem KZ(x:List Nat):∀l,(VA x l).Perm (x::l)
 | []=>.refl _
 | y::l=>by
  unfold VA
  cases Dw y x with
  | false=>exact .refl _
  | true=>exact((KZ x l).cons y).trans (.swap x y l)
theorem Ii:∀l,(Nz l).Perm l
 | []=>.refl _
 | x::l=>(KZ x _).trans ((Ii l).cons x)
theorem LO(x:List Nat):∀l:List (List Nat),l.Pairwise (·≤·)→(VA x l).Pairwise (·≤·)
 | [],_=>by simp[VA]
 | y::l,h=>by
  unfold VA
  have hl:=List.pairwise_cons.1 h
  rw[Pa]
  by_cases hxy:y<x
  ·simp only[hxy,decide_true,cond_true]
   refine List.pairwise_cons.2 ⟨fun z hz=>?_,LO x l hl.2⟩
   rcases uT.1 ((KZ x l).mem_iff.1 hz)with rfl | hz
   ·exact List.le_of_lt hxy
   ·exact hl.1 z hz
  ·simp only[hxy,decide_false,cond_false]
   have hxy:x≤y:=List.not_lt.1 hxy
   refine List.pairwise_cons.2 ⟨fun z hz=>?_,h⟩
   rcases uT.1 hz with rfl | hz
   ·exact hxy
   ·exact List.le_trans hxy (hl.1 z hz)
theorem J2:∀l,(Nz l).Pairwise (·≤·)
 | []=>.nil
 | x::l=>LO x _ (J2 l)
theorem Vl         {l m : List (List Nat)} (hp : l.Perm m) (hl : l.Pairwise (· ≤ ·)) (hm : m.Pairwise (· ≤ ·)) : l = m := by
  induction l generalizing m with
  | nil=>exact(List.nil_perm.1 hp).symm
  | cons a l ih =>
    cases m with
    | nil=>exact absurd hp.length_eq (by simp)
    | cons b m =>
      have hl':=List.pairwise_cons.1 hl
      have hm':=List.pairwise_cons.1 hm
      have hab:a=b:=by
        have h1:a∈b::m:=hp.mem_iff.1 tS
        have h2:b∈a::l:=hp.mem_iff.2 tS
        rcases uT.1 h1 with e | h1
        · exact e
        · rcases uT.1            h2 with e | h2
          · exact e.symm
          · exact List.le_antisymm (hl'.1 b h2) (hm'.1 a h1)
      subst hab
      rw[ih hp.cons_inv hl'.2 hm'.2]
def Dv(l:List UInt8):List Nat:=l.map fun(x:UInt8)=>x.toNat
theorem gj       : ∀ x y : List UInt8, x ≤ y ↔ Dv    x ≤ Dv    y := by
  have key:∀x y:List UInt8,x<y↔Dv x<Dv y:=by
    intro x
    induction x with
    | nil=>intro y;cases y<;>simp[Dv]
    | cons a x ih =>
      intro y
      cases y with
      | nil=>simp[Dv]
      | cons b y =>
        have h1:Dv (a::x)=a.toNat::Dv x:=rfl
        have h2:Dv (b::y)=b.toNat::Dv y:=rfl
        rw[h1,h2,List.cons_lt_cons_iff,List.cons_lt_cons_iff,ih y,UInt8.lt_iff_toNat_lt,UInt8.toNat_inj]
  intro x y
  rw[← List.not_lt,← List.not_lt,key]
theorem Tl(ss:List (List UInt8)):Nz (ss.map Dv)=(ss.mergeSort fun x y=>decide (x≤y)).map Dv:=by
 refine Vl ((Ii _).trans ((List.mergeSort_perm ss _).symm.map Dv)) (J2 _) ?_
 rw[List.pairwise_map]
 have:=List.pairwise_mergeSort (le:=fun(x y:List UInt8)=>decide (x≤y)) (by
  intro a b c h1 h2
  simp only[decide_eq_true_eq]at h1 h2 ⊢
  exact List.le_trans h1 h2) (by
  intro a b
  simp only[Bool.or_eq_true,decide_eq_true_eq]
  exact List.le_total a b) ss
 exact this.imp fun h=>(gj _ _).1 (by simpa using h)
theorem Nu         {α : Type} [Inhabited α] {enc : α → Value} {w : World} {b off : Nat} {cells : Array Value} {e : TypeId} {pl : Nat × Nat} (hb : w.heap[b]? = some (.cells cells e pl)) {l : List α} (hl : off + l.length ≤ cells.size) :
    w.setRow b (cells.toList.take (off+0)++l.map enc++cells.toList.drop (off+0+(l.map enc).length)).toArray=Go.Sort.putRow enc w b off l.toArray:=by
  have hc:(cells.toList.take (off+0)++l.map enc++cells.toList.drop (off+0+(l.map enc).length)).toArray=Go.Sort.putCells enc off l.toArray cells:=by
    apply Array.ext_getElem?
    intro k
    rw[List.getElem?_toArray]
    unfold Go.Sort.putCells
    rw[Array.getElem?_mapIdx]
    simp only[tZ,tz,tg]
    have hts:(cells.toList.take off).length=off:=by simp;omega
    rcases tL k off with h1 | h1
    · rw[uB (by omega),uZ h1,Array.getElem?_toList]
      cases cells[k]? with
      | none=>rfl
      | some v=>simp only[uA];rw[if_neg (by omega)]
    · rw [uC                         (by omega), hts]
      rcases tL k (off+l.length)with h2 | h2
      · rw[uB (by simp;omega),uG,tQ (by omega:k - off<l.length),Array.getElem?_eq_getElem (by omega:k<cells.size)]
        simp only[uA]
        rw[if_pos ⟨h1,by simpa using h2⟩]
        simp[show k - off<l.length from by omega]
      · rw[uC (by simp;omega),tz,uk,show off+l.length+(k - off - l.length)=k from by omega,Array.getElem?_toList]
        cases cells[k]? with
        | none=>rfl
        | some v=>simp only[uA];rw[if_neg (by simp;omega)]
  rw[hc]
  unfold World.setRow Go.Sort.putRow Go.Sort.mapBlock
  congr 1
  apply Array.ext_getElem?
  intro k
  simp only[Array.getElem?_modify]
  by_cases hk:b=k
  · subst hk
    simp only[if_true,hb,uA,Go.Sort.onCells]
  · simp[hk]
def Vk(s:AD):List AV→Option (AV×AD)
 | [.slice none 0 _]=>some (.tuple [],s)
 | [.slice (some (i,o)) n _]=>(BG s i o n).bind fun cs=>(Lk cs).bind fun xs=>AF (Nat.blt 0 n && Nat.ble n 1000000) (Gv ((Nz xs).map AV.str) fun ys=>(Bi s i o ys).bind fun s'=>some (.tuple [],s'))
 | _=>none
section
variable{ρ:A5}{s s1:AD}{w w1:World}
theorem To{ρ:A5}:∀ {l:List (List UInt8)},AJ ρ ((l.map Dv).map AV.str) (l.map encStr)
 | []=>.nil
 | x::l=>.cons (.str (by simp[Dv])) To
theorem ZT        (h : As  Tryz.prog ρ s w) {ys : List AV} {as' : Array Value} {v : AV} (hs : Vk     s ys = some (v, s1)) (has : AJ    ρ ys as'.toList) : CallsIn Fence.wide 0 Tryz.prog 85 as' w (Bk     Tryz.prog ρ s w v s1) := by
  refine callsIn_wide.2 ?_
  unfold Vk at hs
  split at hs<;>first | (cases hs;done) | skip
  · injection hs with hs
    injection hs with q1 q2
    subst q1;subst q2
    obtain⟨l0⟩:=as'
    cases has with
    | cons h1 h2 =>
    cases h2
    cases h1 with
    | sliceNil =>
      refine Calls.mono (AnyM.slices_Sort_string_none S0 none 0 w) ?_
      rintro e w' ⟨rfl,rfl⟩
      exact⟨ρ,.tuple .nil,h,Fr.refl _ _ _⟩
  · rename_i i o n c
    simp only[tH]at hs
    obtain⟨cs,hl,xs,hx,hs⟩:=hs
    obtain⟨hg,hs⟩:=AA hs
    simp only[Bool.and_eq_true,tK,tP]at hg
    obtain⟨hn0,hn⟩:=hg
    rw[D3]at hs
    simp only[tH]at hs
    obtain⟨s2,hst,hs⟩:=hs
    injection hs with hs
    injection hs with q1 q2
    subst q1;subst q2
    obtain⟨l0⟩:=as'
    cases has with
    | cons h1 h2 =>
    cases h2
    have hrow:∃r,rowAt s i=some r:=by
      unfold BG at hl
      cases hrw:rowAt s i with
      | none=>rw[hrw]at hl;cases hl
      | some r=>exact⟨r,rfl⟩
    obtain⟨r,hrow⟩:=hrow
    have main:∀ {rb:RB} {cap:Nat},ρ i=some rb→Calls Tryz.prog 85 #[.slice (some ⟨rb.b,rb.off+o,none⟩) n cap] w (Bk Tryz.prog ρ s w (.tuple []) s2):=by
      intro rb cap hr
      obtain⟨l',hv,hl2,_⟩:=B2 h hr hl
      obtain⟨bs,rfl,rfl⟩:=He hx hv
      have hlen:bs.length=n:=by rw[tz]at hl2;exact hl2
      let us:List (List UInt8):=bs.map fun b=>b.data.toList
      have hus:(bs.map fun b=>b.data.toList.map fun(c:UInt8)=>c.toNat)=us.map Dv:=by simp[us,Dv]
      have hok:BF ρ w r rb:=h.obj i _ rb (Ap hrow) hr
      obtain⟨g1,g2⟩:=D5 hrow hl
      have hown:B8 r.mode=true:=by
        cases bs with
        | nil=>simp at hlen;omega
        | cons b bs =>
          have hne:∃x l,(Nz ((b::bs).map fun b=>b.data.toList.map fun(c:UInt8)=>c.toNat)).map AV.str=x::l:=by
            have:=(Ii ((b::bs).map fun b=>b.data.toList.map fun(c:UInt8)=>c.toNat)).length_eq
            cases hq:Nz ((b::bs).map fun b=>b.data.toList.map fun(c:UInt8)=>c.toNat)with
            | nil=>rw[hq]at this;simp at this
            | cons x l=>exact⟨_,_,rfl⟩
          obtain⟨x,l,hq⟩:=hne
          rw[hq]at hst
          unfold Bi at hst
          rw[hrow,Option.bind_some]at hst
          have:=(AA hst).1
          simp only[Bool.and_eq_true]at this
          exact this.1.1
      obtain⟨cells,hblk,hsz⟩:=hok.own (fun e=>by rw[e]at hown;cases hown)
      have hle:=hok.le
      have hcell:∀j,j<n→cells[rb.off+o+j]? = some (encStr (us.toArray[j]!)):=by
        intro j hj
        have hjb:j<bs.length:=by omega
        obtain⟨u,hu1,hu2⟩:=hv.backAt (k:=j) (v':=.string bs[j]) (by rw[uG,tQ hjb];rfl)
        have g3:=AE.take_get g2 j hj
        have hl1:B1 s i (o+j)=some u:=by
          unfold B1
          rw[hrow,Option.bind_some,g3,hu1]
          have:Nat.blt (o+j) r.n=true:=by rw[tP];omega
          rw[this];rfl
        obtain⟨v',k1,k2⟩:=EO h hr hl1
        have e5:v'=.string bs[j]:=by
          obtain⟨su,rfl⟩:=Ko hx u (tf hu1)
          cases hu2 with
          | str e1 =>
            cases k1 with
            | str e2=>rw[Oe (e2.trans e1.symm)]
        subst e5
        have hju:j<us.length:=by simp[us];exact hjb
        simp only[World.cell?,hblk]at k2
        have k3:cells[rb.off+(o+j)]? = some (.string bs[j]):=by simpa using k2
        rw[show rb.off+o+j=rb.off+(o+j)from by omega,k3]
        simp[us,hjb,encStr]
      have hH:Go.Sort.Holds encStr w rb.b (rb.off+o) us.toArray:=by
        intro j hj
        have hjn:j<n:=by simpa[us,hlen]using hj
        refine⟨?_,?_⟩
        · simp only [World.cell?, hblk]
          simpa using hcell j hjn
        · simp[World.frozen?,hblk]
      have hul:us.length=n:=by simp[us,hlen]
      have hcall:=AnyM.slices_Sort_string S0 rb.b (rb.off+o) cap us w hH (h.lt i rb hr) (by omega)
      rw[hul]at hcall
      refine Calls.mono hcall ?_
      rintro e w' ⟨rfl,k,os,rfl⟩
      obtain⟨i1,f1⟩:=h.aheadS k
      have hst':Bi s i o (((us.mergeSort fun x y=>decide (x≤y)).map Dv).map AV.str)=some s2:=by
        rw[← Tl,← hus];exact hst
      obtain⟨w3,hrun,i2,f2⟩:=E4 i1 hr hst' To
      have hblk1:(Go.Sort.ahead w k).heap[rb.b]? = some (.cells cells r.elem (0,0)):=hblk
      have hml:(us.mergeSort fun x y=>decide (x≤y)).length=n:=by rw[List.length_mergeSort,hul]
      have hfit:rb.off+o+0+((us.mergeSort fun x y=>decide (x≤y)).map encStr).length≤cells.size:=by rw[tz,hml];omega
      have hrun2:=run_storeCells_at Tryz.prog rb.b (rb.off+o) r.elem ((us.mergeSort fun x y=>decide (x≤y)).map encStr) 0 cells (Go.Sort.ahead w k) hblk1 hfit (by
        intro v hv
        obtain⟨x,_,rfl⟩:=List.mem_map.1 hv
        rfl)
      have hw3:w3=Go.Sort.putRow encStr (Go.Sort.ahead w k) rb.b (rb.off+o) (us.mergeSort fun x y=>decide (x≤y)).toArray:=by
        have:=hrun.symm.trans hrun2
        injection this with _ this
        rw[this]
        exact Nu hblk1 (by simp;omega)
      rw[← hw3]
      obtain⟨i3,f3⟩:=i2.growS os
      exact⟨ρ,.tuple .nil,i3,(f1.trans f2).trans f3⟩
    cases h1 with
    | slice hr hle=>exact main hr
    | sliceOpen hr h0 hle hN1 hN2=>exact main hr
    | sliceEnd hr h0 hN1 hN2=>omega
def Jb:List AV→Option (List Int)
 | []=>some []
 | .int .i64 x::l=>(Jb l).bind fun r=>some (x::r)
 | _=>none
theorem Oy:∀ {l:List AV}{r:List Int},Jb l=some r→∀v∈l,∃x,v=.int .i64 x
 | [],_,_,v,hv=>by cases hv
 | a::l,r,h,v,hv=>by
  unfold Jb at h
  split at h<;>first | (cases h;done) | skip
  ·rename_i hq;cases hq
  ·rename_i x l2 hq
   injection hq with q1 q2
   subst q1;subst q2
   simp only[tH]at h
   obtain⟨r',h1,_⟩:=h
   rcases uT.1 hv with rfl | hv
   ·exact⟨_,rfl⟩
   ·exact Oy h1 v hv
theorem O0        {ρ : A5}  : ∀ {l : List AV} {us : List Int} {l' : List Value}, Jb    l = some us → AJ    ρ l l' → l' = us.map (Value.int .i64)
  | [],us,l',h,hr=>by cases hr;injection h with h;subst h;rfl
  | v::l,us,l',h,hr=>by
    cases hr with
    | cons hv hs =>
      unfold Jb at h
      split at h<;>first | (cases h;done) | skip
      · rename_i hq;cases hq
      · rename_i x l2 hq
        injection hq with q1 q2
        subst q1;subst q2
        simp only[tH]at h
        obtain⟨r,h1,h2⟩:=h
        injection h2 with h2
        subst h2
        have:=O0 h1 hs
        subst this
        cases hv
        rfl
theorem Su{ρ:A5}:∀ {l:List Int},AJ ρ (l.map Y0) (l.map (Value.int .i64))
 | []=>.nil
 | x::l=>.cons (.int _ _) Su
def Vj(s:AD):List AV→Option (AV×AD)
 | [.slice none 0 _]=>some (.tuple [],s)
 | [.slice (some (i,o)) n _]=>(BG s i o n).bind fun cs=>(Jb cs).bind fun xs=>AF (Nat.blt 0 n && Nat.ble n 1000000) (Gv ((ID xs).map Y0) fun ys=>(Bi s i o ys).bind fun s'=>some (.tuple [],s'))
 | _=>none
theorem ZS        (h : As  Tryz.prog ρ s w) {ys : List AV} {as' : Array Value} {v : AV} (hs : Vj     s ys = some (v, s1)) (has : AJ    ρ ys as'.toList) : CallsIn Fence.wide 0 Tryz.prog 73 as' w (Bk     Tryz.prog ρ s w v s1) := by
  refine callsIn_wide.2 ?_
  unfold Vj at hs
  split at hs<;>first | (cases hs;done) | skip
  · injection hs with hs
    injection hs with q1 q2
    subst q1;subst q2
    obtain⟨l0⟩:=as'
    cases has with
    | cons h1 h2 =>
    cases h2
    cases h1 with
    | sliceNil =>
      refine Calls.mono (AnyM.slices_Sort_int_none Jh none 0 w) ?_
      rintro e w' ⟨rfl,rfl⟩
      exact⟨ρ,.tuple .nil,h,Fr.refl _ _ _⟩
  · rename_i i o n c
    simp only[tH]at hs
    obtain⟨cs,hl,us,hx,hs⟩:=hs
    obtain⟨hg,hs⟩:=AA hs
    simp only[Bool.and_eq_true,tK,tP]at hg
    obtain⟨hn0,hn⟩:=hg
    rw[D3]at hs
    simp only[tH]at hs
    obtain⟨s2,hst,hs⟩:=hs
    injection hs with hs
    injection hs with q1 q2
    subst q1;subst q2
    obtain⟨l0⟩:=as'
    cases has with
    | cons h1 h2 =>
    cases h2
    have hrow:∃r,rowAt s i=some r:=by
      unfold BG at hl
      cases hrw:rowAt s i with
      | none=>rw[hrw]at hl;cases hl
      | some r=>exact⟨r,rfl⟩
    obtain⟨r,hrow⟩:=hrow
    have main:∀ {rb:RB} {cap:Nat},ρ i=some rb→Calls Tryz.prog 73 #[.slice (some ⟨rb.b,rb.off+o,none⟩) n cap] w (Bk Tryz.prog ρ s w (.tuple []) s2):=by
      intro rb cap hr
      obtain⟨l',hv,hl2,_⟩:=B2 h hr hl
      obtain rfl:=O0 hx hv
      have hlen:us.length=n:=by rw[tz]at hl2;exact hl2
      have hok:BF ρ w r rb:=h.obj i _ rb (Ap hrow) hr
      obtain⟨g1,g2⟩:=D5 hrow hl
      have hown:B8 r.mode=true:=by
        cases us with
        | nil=>simp at hlen;omega
        | cons b us =>
          have hne:∃x l,(ID (b::us)).map Y0=x::l:=by
            have:=(GL (b::us)).length_eq
            cases hq:ID (b::us)with
            | nil=>rw[hq]at this;simp at this
            | cons x l=>exact⟨_,_,rfl⟩
          obtain⟨x,l,hq⟩:=hne
          rw[hq]at hst
          unfold Bi at hst
          rw[hrow,Option.bind_some]at hst
          have:=(AA hst).1
          simp only[Bool.and_eq_true]at this
          exact this.1.1
      obtain⟨cells,hblk,hsz⟩:=hok.own (fun e=>by rw[e]at hown;cases hown)
      have hle:=hok.le
      have hcell:∀j,j<n→cells[rb.off+o+j]? = some ((Value.int .i64) (us.toArray[j]!)):=by
        intro j hj
        have hjb:j<us.length:=by omega
        obtain⟨u,hu1,hu2⟩:=hv.backAt (k:=j) (v':=.int .i64 us[j]) (by rw[uG,tQ hjb];rfl)
        have g3:=AE.take_get g2 j hj
        have hl1:B1 s i (o+j)=some u:=by
          unfold B1
          rw[hrow,Option.bind_some,g3,hu1]
          have:Nat.blt (o+j) r.n=true:=by rw[tP];omega
          rw[this];rfl
        obtain⟨v',k1,k2⟩:=EO h hr hl1
        have e5:v'=.int .i64 us[j]:=by
          obtain⟨su,rfl⟩:=Oy hx u (tf hu1)
          cases hu2
          cases k1
          rfl
        subst e5
        simp only[World.cell?,hblk]at k2
        have k3:cells[rb.off+(o+j)]? = some (.int .i64 us[j]):=by simpa using k2
        rw[show rb.off+o+j=rb.off+(o+j)from by omega,k3]
        simp[hjb]
      have hH:Go.Sort.Holds (Value.int .i64) w rb.b (rb.off+o) us.toArray:=by
        intro j hj
        have hjn:j<n:=by simpa[hlen]using hj
        refine⟨?_,?_⟩
        · simp only [World.cell?, hblk]
          simpa using hcell j hjn
        · simp[World.frozen?,hblk]
      have hul:us.length=n:=hlen
      have hcall:=AnyM.slices_Sort_int Jh rb.b (rb.off+o) cap us w hH (h.lt i rb hr) (by omega)
      rw[hul]at hcall
      refine Calls.mono hcall ?_
      rintro e w' ⟨rfl,k,os,rfl⟩
      obtain⟨i1,f1⟩:=h.aheadS k
      have hst':Bi s i o ((us.mergeSort fun x y=>decide (x≤y)).map Y0)=some s2:=by
        rw[LR (List.Perm.refl us)];exact hst
      obtain⟨w3,hrun,i2,f2⟩:=E4 i1 hr hst' Su
      have hblk1:(Go.Sort.ahead w k).heap[rb.b]? = some (.cells cells r.elem (0,0)):=hblk
      have hml:(us.mergeSort fun x y=>decide (x≤y)).length=n:=by rw[List.length_mergeSort,hul]
      have hfit:rb.off+o+0+((us.mergeSort fun x y=>decide (x≤y)).map (Value.int .i64)).length≤cells.size:=by rw[tz,hml];omega
      have hrun2:=run_storeCells_at Tryz.prog rb.b (rb.off+o) r.elem ((us.mergeSort fun x y=>decide (x≤y)).map (Value.int .i64)) 0 cells (Go.Sort.ahead w k) hblk1 hfit (by
        intro v hv
        obtain⟨x,_,rfl⟩:=List.mem_map.1 hv
        rfl)
      have hw3:w3=Go.Sort.putRow (Value.int .i64) (Go.Sort.ahead w k) rb.b (rb.off+o) (us.mergeSort fun x y=>decide (x≤y)).toArray:=by
        have:=hrun.symm.trans hrun2
        injection this with _ this
        rw[this]
        exact Nu hblk1 (by simp;omega)
      rw[← hw3]
      obtain⟨i3,f3⟩:=i2.growS os
      exact⟨ρ,.tuple .nil,i3,(f1.trans f2).trans f3⟩
    cases h1 with
    | slice hr hle=>exact main hr
    | sliceOpen hr h0 hle hN1 hN2=>exact main hr
    | sliceEnd hr h0 hN1 hN2=>omega
def nL:CU:=In nR (In (Od 59 fun xs s=>VE s xs) (In (Od 85 fun xs s=>Vk s xs) (In (Od 73 fun xs s=>Vj s xs) (Od 86 fun xs s=>VF s xs))))
theorem gT:Av Tryz.prog nL:=BT gZ (BT (Cu fun ρ s w xs v s1 xs' hc hi hf ha=>⟨⟨_,_,Tryz.func59,rfl⟩,Yy hi hc ha⟩)
 (BT (Cu fun ρ s w xs v s1 xs' hc hi hf ha=>⟨⟨_,_,Tryz.func85,rfl⟩,ZT hi hc ha⟩)
  (BT (Cu fun ρ s w xs v s1 xs' hc hi hf ha=>⟨⟨_,_,Tryz.func73,rfl⟩,ZS hi hc ha⟩) (Cu fun ρ s w xs v s1 xs' hc hi hf ha=>⟨⟨_,_,Tryz.func86,rfl⟩,Y2 hi hc ha⟩))))
end
end
end Go.Proofs.YtoaaclpjkelofaaGreatDoor.Am
set_option linter.unusedVariables false
set_option linter.unusedSimpArgs false
set_option maxRecDepth 12000
namespace Go.Proofs.YtoaaclpjkelofaaGreatDoor.Am
open Go Go.Proofs
noncomputable section
def YN(l:List Nat):List AV:=l.map fun b=>.int .u8 (.ofNat b)
theorem lR(l:List Nat):Ag (YN l)=true:=by
 induction l with
 | nil=>rfl
 | cons a l ih=>exact ih
theorem R3(l:List Nat):(YN l).length=l.length:=tz ..
theorem Of:∀ {l:List Nat},(∀x∈l,x<256)→Ac.bytesOf (YN l)=some l
 | [],_=>rfl
 | x::l,h=>by
  have h1:Nat.blt x 256=true:=Py (h x tS)
  show AF (Nat.blt x 256) ((Ac.bytesOf (YN l)).bind fun r=>some (x::r))=_
  rw[h1,Of fun y hy=>h y (tW _ hy)]
  rfl
theorem Vv:Cj Tryz.prog 5 1=true:=by kernel_rfl
theorem p8:Bp Tryz.prog 9=true:=by kernel_rfl
def EB(s:AD)(v:AV):Prop:=∀i o n c r,v=.slice (some (i,o)) n c→s.heap.get i=some (.row r)→r.bytes=true
theorem Gg.base  {s : AD}  {v : AV} {n : Nat} {cs : List AV} {O : List Nat} (h : Gg  5 1 s v n cs O) (hb : EB      s v) {m : Nat} {add : List AV} (h0 : 0 < m) {a : Option (Nat × Nat)} {cap : Option Nat} (hv : v = .slice a n cap) {v' : AV} {s' : AD}  (happ : appTo Tryz.prog s 5 1 a n cap (m, add) = some (v', s')) : EB      s' v' := by
  rcases h with⟨rfl,rfl,rfl,_⟩ | ⟨i,p,rfl,hg,_⟩
  · injection hv with e1 e2 e3
    subst e1;subst e3
    simp only[appTo,Cs (show m≠0 by omega),cond_false,CB,Vv,AF,cond_true,Option.some.injEq,Prod.mk.injEq]at happ
    obtain⟨rfl,rfl⟩:=happ
    intro i o n c r e hr
    injection e with e
    injection e with e
    injection e with e _
    subst e
    rw[AQ,if_pos rfl]at hr
    injection hr with hr
    injection hr with hr
    subst hr;rfl
  · injection hv with e1 e2 e3
    subst e1;subst e3
    rcases hg.ex with⟨h4,_⟩ | ⟨_,_,_,_,r,h7,h8,h9,h10,h11,h12,h13⟩
    · cases h4
    · have hbr := hb i 0 n none r rfl h7
      have hrn:r.n=n:=by rw[h8.1,hg.len];omega
      have hrow:rowAt s i=some r:=by rw[HY,h7];rfl
      have hld:∃old,BG s i 0 (n * 1)=some old:=⟨_,by rw[Ji,h7];exact X3 h8 (by rw[hg.len];omega)⟩
      obtain⟨old,hld⟩:=hld
      have hn1:Nat.ble (0+(n+m) * 1) r.n=false:=Lv (by omega)
      have hn2:Nat.beq (0+n * 1) r.n=true:=EU (by omega)
      have hn3:Nat.beq 1 r.sz=true:=EU h11.symm
      have hn4:Nat.beq r.elem 5=true:=EU h13
      simp only[appTo,hrow,Option.bind_some,Iq,hn3,hn1,cond_false,hld,h9,cond_true,EJ,h10,B8,hn4,Vv,AF,hn2,Bool.and_self,Option.some.injEq,Prod.mk.injEq]at happ
      obtain⟨rfl,rfl⟩:=happ
      intro j o n' c r' e hr
      injection e with e
      injection e with e
      injection e with e _
      have hnx:(CQ s i r true).next=s.next:=by
        unfold CQ A3
        cases r.par with
        | none=>rfl
        | some q=>cases hq:Nat.beq q i<;>simp only[hq,cond_true,cond_false]<;>rfl
      rw[← e,← hnx,AQ,if_pos rfl]at hr
      injection hr with hr
      injection hr with hr
      subst hr
      show(r.bytes && Nat.beq 0 0)=true
      rw[hbr];rfl
theorem Gg.appendS  {s : AD}  {v : AV} {n : Nat} {cs : List AV} {O : List Nat} (h : Gg  5 1 s v n cs O) {x : List Nat} (h0 : 0 < x.length) (h1 : n + x.length ≤ 1000000000) :
    ∃v' s' O',Ay Tryz.prog s [22,9] [v,.str x]=some (v',s')∧Gg 5 1 s' v' (n+x.length) (cs++YN x) O'∧s'.next=s.next+1∧(∀j,j<s.next→j ∉ O→s'.heap.get j=s.heap.get j)∧(∀j∈O',j∈O∨s.next≤j)∧Ci v'=some s.next∧(EB s v→EB s' v'):=by
  have ha:(YN x).length=x.length * 1:=by rw[R3];omega
  have happA:∀a cap,Ay Tryz.prog s [22,9] [.slice a n cap,.str x]=appTo Tryz.prog s 5 1 a n cap (x.length,YN x):=fun a cap=>by
    have h2:Nat.ble ((n+x.length) * 1) 1099511627776=true:=CC (by omega)
    have h3:Nat.ble (n+x.length) 1099511627776=true:=CC (by omega)
    have h4:B4 Tryz.prog s 5 1 (.str x)=some (x.length,YN x):=rfl
    simp only[Ay,Tryz.underlying22,pr,sZ,Option.bind_some,h4,p8,lR,h2,h3,AF]
    rfl
  have key:∀ (i:Nat) (p:Option Nat),F5 5 0 s.next s v n 1 cs i p→(∀j,j<s.next→j ∉ O→j≠i∧p≠some j)→(∀j,j=i∨p=some j→j∈O∨s.next≤j) →
      ∃v' s' O',Ay Tryz.prog s [22,9] [v,.str x]=some (v',s')∧Gg 5 1 s' v' (n+x.length) (cs++YN x) O'∧s'.next=s.next+1∧(∀j,j<s.next→j ∉ O→s'.heap.get j=s.heap.get j)∧(∀j∈O',j∈O∨s.next≤j)∧Ci v'=some s.next∧(EB s v→EB s' v'):=by
    intro i p hg hi hO
    obtain⟨a,cap,v',s',rfl,happ,i',p',hg',hap,_,rfl,hp',hn',_⟩:=hg.appTo (P:=Tryz.prog) (tJ _) (tV _) Vv (by omega) ha h0
    have hv':v'=.slice (some (s.next,0)) (n+x.length) none:=by
      rcases hg'.ex with⟨_,h0'⟩ | ⟨h1',_⟩
      · omega
      · exact h1'
    refine⟨v',s',s.next::p'.toList,by rw[happA];exact happ,.inr ⟨s.next,p',hv',hg',rfl⟩,hn',fun j hj hjO=>?_,fun j hj=>?_,by rw[hv'];rfl,fun hbr=>h.base hbr h0 rfl happ⟩
    · exact hap.2 j hj (hi j hj hjO).1 (hi j hj hjO).2
    · rcases uT.1            hj with rfl | hj
      · exact .inr (tJ _)
      · rcases hp' with rfl | rfl
        · cases hj
        · simp at hj;subst hj;exact hO _ (.inl rfl)
  rcases h with⟨rfl,rfl,rfl,rfl⟩ | ⟨i,p,rfl,hg,rfl⟩
  · exact key s.next none (F5.zero _ _ _ _ _ _ _) (fun j hj _=>⟨by omega,by simp⟩) (fun j hj=>by rcases hj with rfl | hj;exact .inr (tJ _);cases hj)
  · refine key i p hg (fun j hj hjO => ⟨fun e => hjO (by simp [e]), fun e => hjO (by simp [e])⟩) (fun j hj => ?_)
    rcases hj with rfl | rfl<;>simp
theorem EB.frame{s s':AD}{v:AV}(h:EB s v)(k:∀j,Ci v=some j→s'.heap.get j=s.heap.get j):EB s' v:=by
 intro i o n c r e hr
 subst e
 rw[k i rfl]at hr
 exact h i o n c r rfl hr
structure YX(s:AD)(i:Nat)(x:List Nat)(O:List Nat):Prop where
 ex:∃pv v,s.heap.get i=some (R 108 0 false [pv,v])∧(pv=.ptr none∨pv=.ptr (some (i,0)))∧Gg 5 1 s v x.length (YN x) O∧EB s v
 lt:i<s.next
 nO:i ∉ O
theorem kD{s:AD}{i:Nat}{a b:AV}(h:s.heap.get i=some (R 108 0 false [a,b])):Ac Tryz.prog s 106 164 (.ptr (some (i,0)))=some (.ptr (some (i,0)))∧Ac Tryz.prog s 164 106 (.ptr (some (i,0)))=some (.ptr (some (i,0))):=by
  have hr:rowAt s i=some { elem:=108,sz:=0,n:=2,c:=T0 [a,b],spare:=false,mode:=.own,par:=none,bytes:=true }:=by rw[HY,h];rfl
  constructor
  · show Ac.seenPtr    Tryz.prog s 108 (.ptr (some (i, 0))) = _
    simp only[Ac.seenPtr,hr,nY,Option.bind_some]
    rfl
  · show Ac.seenPtr    Tryz.prog s 108 (.ptr (some (i, 0))) = _
    simp only[Ac.seenPtr,hr,nY,Option.bind_some]
    rfl
theorem pZ(i o:Nat):AP Tryz.prog .eql 106 (.ptr (some (i,o))) (.ptr none)=some (.bool false):=by kernel_rfl
theorem ko:AP Tryz.prog .eql 106 (.ptr none) (.ptr none)=some (.bool true):=by kernel_rfl
theorem kp{s:AD}{i:Nat}{a b:AV}(h:s.heap.get i=some (R 108 0 false [a,b])):GX Tryz.prog s true 106 (.ptr (some (i,0))) (.ptr (some (i,0)))=some (.bool false):=by
 have hr:GW s i=true:=by unfold GW;rw[HY,h];rfl
 have hp:VD Tryz.prog 106=true:=by kernel_rfl
 have hb:Nat.beq i i=true:=EU rfl
 simp only[GX,hr,hp,hb,AF]
 rfl
section
variable{E:Ck}(hE:Ak E){s:AD}{i:Nat}{x:List Nat}{O:List Nat}(h:YX s i x O){K:AV→AD→Prop}
include hE h
theorem Vc(hK:∀s',YX s' i x O→s'.next=s.next→(∀j,j≠i→s'.heap.get j=s.heap.get j)→K (.tuple []) s'):WF E 95 [.ptr (some (i,0))] K s:=by
  obtain⟨pv,v,h1,h2,h3,h3b⟩:=h.ex
  have hlt:=h.lt
  obtain⟨hc1,hc2⟩:=kD h1
  have hps:=kp h1
  refine hE.go nz (by decide) rfl ?_
  have hs0:s=ext s []:=(Ba s).symm
  rcases h2 with rfl | rfl
  · have hcf:(AV.ptr (some (i,0))).cells=[.ptr (some (i,0))]:=rfl
    rw[hs0]at hc1 hc2 ⊢
    obtain⟨a,c,rfl,_⟩:=h3.slice
    simp only[sP,ef,ly,Xs,lZ,sD,h1,hlt,hc1,hc2,ko,RH,tZ,Qa,Qb,Qc,Qd,Qf,Qh,Qi,Qj,Qk,Ql,Qm,Qn,true_and,Qo,Qp,Qq,Qr,Qs,Qu,Qy,Ra,Rh,Ri,Rj,Rn,Yc,Yd,We,Wg,Wh,Wj,Wk,Wm,Wn,Wt,Wx,Wy,Xe,Xf,Xl,Xo,Xp,Xu,tq,uV,uE,List.getElem?_cons_zero,tR,Nat.reduceAdd,Nat.reduceLeDiff,decide_true,Bool.and_true,Xx,Xz]
    refine hK _ ⟨⟨_,_,by rw[Ba,Wv],.inr rfl,?_,?_⟩,by rw[Ba];exact hlt,h.nO⟩ (by rw[Ba];rfl) (fun j hj=>by rw[Ba,Ww _ hj])
    · refine h3.frame (by rw [Ba];      exact tJ          _) fun j hj => ?_
      rw[Ba,Ww _ (fun e=>h.nO (by rw[← e];exact hj))]
    · refine h3b.frame fun j hj => ?_
      rw[Ba,Ww _ (fun e=>h.nO (by rw[← e];exact h3.slotO hj))]
  · rw[hs0]at hps ⊢
    simp only[sP,ef,lz,Xs,lZ,h1,hlt,hps,pZ,tZ,Qa,Qb,Qc,Qd,Qf,Qh,Qi,Qj,Qk,Ql,Qm,Qn,true_and,Qo,Qp,Qq,Qr,Qs,Qu,Qz,Ra,Rh,Ri,Rj,Rn,Yd,We,Wm,Wn,Xe,List.getElem?_cons_zero,Xx]
    rw[Ba]
    exact hK s h rfl fun _ _=>rfl
theorem Vd{y:List Nat}(h0:0<y.length)(hl:x.length+y.length≤1000000000)(hK:∀s' O',YX s' i (x++y) O'→s.next≤s'.next→(∀j,j<s.next→j≠i→j ∉ O→s'.heap.get j=s.heap.get j)→(∀j∈O',j∈O∨s.next≤j)→K (.tuple [iv (y.length:Int),.nilIface]) s'):
  WF E 58 [.ptr (some (i,0)),.str y] K s:=by
 refine hE.go nr (by decide) rfl ?_
 simp only[si,lr,ls,Qa,Qb,Qc,Qd,Qf,Qh,Qi,Qj,Ql,Qm,Qn,true_and,Qo,Qp,Qq,Qs,Qu,Ra,Rg,Ri,Rj,Rk,Ro,Yc]
 refine Vc hE h fun s1 g1 g2 g3=>?_
 obtain⟨pv,v,h1,h2,h3,h3b⟩:=g1.ex
 obtain⟨v',s2,O',happ,hb2,hn2,hf2,hO2,hsl,hbs⟩:=h3.appendS h0 hl
 have hbs:=hbs h3b
 obtain⟨a,c,hv',_⟩:=hb2.slice
 subst hv'
 have hlt:=g1.lt
 have hi2:s2.heap.get i=some (R 108 0 false [pv,v]):=by rw[hf2 i hlt g1.nO];exact h1
 have hs1:s1=ext s1 []:=(Ba s1).symm
 have hs2:s2=ext s2 []:=(Ba s2).symm
 have hlt2:i<s2.next:=by omega
 rw[hs1]at happ ⊢
 rw[hs2]at happ
 have hlen:Bb Tryz.prog (ext (setObj s2 i (R 108 0 false [pv,.slice a (x.length+y.length) c])) []) 9 (.str y)=some (iv (y.length:Int)):=by
  show(match Tryz.prog.underlying 9 with | some .string=>some (AV.int .i64 (.ofNat y.length)) | _=>none)=_
  rw[Tryz.underlying9];rfl
 simp only[lu,lv,Xt,Zn,sE,h1,hlt,hlt2,hi2,happ,hlen,Qb,Qc,Qd,Qf,Qh,Qi,Qj,Qk,Qm,Qn,true_and,Qo,Qp,Qq,Qr,Qs,Qu,Yc,Yd,Ye,We,Wg,Wh,Wj,Wk,Wm,Wn,Wt,Wx,Wy,Xe,Xf,Xm,Xo,Xp,Xv,tq,uV,uE,List.set_cons_succ,List.getElem?_cons_zero,List.getElem?_cons_succ,tR,Nat.reduceAdd,decide_true,Bool.and_true,tJ,Xx,Xz]
 have hiO:i ∉ O':=fun hm=>(hO2 i hm).elim g1.nO (fun hl=>by omega)
 refine hK _ O' ⟨⟨pv,_,by rw[Ba,Wv],h2,?_,?_⟩,by rw[Ba];exact hlt2,hiO⟩ (by rw[Ba,Wu];omega) (fun j hj hji hjO=>?_) (fun j hj=>(hO2 j hj).imp id (fun hl=>by omega))
 ·rw[Ba]
  have:=hb2.frame (s':=setObj s2 i (R 108 0 false [pv,.slice a (x.length+y.length) c])) (tJ _) fun j hj=>Ww _ (fun e=>hiO (e▸hj))
  rw[tX]
  have hu:YN (x++y)=YN x++YN y:=List.map_append
  rw[hu]
  exact this
 ·rw[Ba]
  exact hbs.frame fun j hj=>Ww _ (fun e=>hiO (e▸hb2.slotO hj))
 ·rw[Ba,Ww _ hji,hf2 j (by omega) hjO,g3 j hji]
theorem Te          (hx0 : 0 < x.length) (hx : ∀ b ∈ x, b < 256) (hl : x.length ≤ 1000000000) (hK : ∀ s', s.next ≤ s'.next → (∀ j, j ∉ O → s'.heap.get j = s.heap.get j) → K (.str x) s') : WF E 60 [.ptr (some (i, 0))] K s := by
  obtain⟨pv,v,h1,h2,h3,h3b⟩:=h.ex
  have hlt:=h.lt
  refine hE.go ny (by decide) rfl ?_
  have hs0:s=ext s []:=(Ba s).symm
  rcases h3 with⟨rfl,hx1,_,_⟩ | ⟨j,p,rfl,hg,rfl⟩
  · omega
  · rcases hg.ex with ⟨h4, _⟩ | ⟨_, hxx, h5, h6, r, h7, h8, h9, h10, h11, h12⟩
    · cases h4
    · have hbr := h3b j 0 _ none r rfl h7
      have hlj:j<s.next:=h5
      have hrow:rowAt s j=some r:=by rw[HY,h7];rfl
      have hen:Nat.beq r.elem 5=true:=EU (h12.2)
      have hld:BG s j 0 x.length=some (YN x):=by
        rw[Ji,h7,X3 h8 (by rw[R3];omega),uY,List.take_of_length_le (by rw[R3];exact tJ _)]
      have hle:Nat.ble x.length 1099511627776=true:=CC (by omega)
      · obtain⟨m,hm⟩:∃m,x.length=m+1:=⟨x.length - 1,by omega⟩
        have hus:Pi Tryz.prog s [144,3] [.ptr (some (j,0)),iv (x.length:Int)]=some (.str x,setObj (A3 s j r) j (QM r)):=by
          have e1:Pi Tryz.prog s [144,3] [.ptr (some (j,0)),iv (x.length:Int)]=MF Tryz.prog s 144 x.length (some (j,0)):=by rw[hm];rfl
          rw[e1]
          simp only[MF,Tryz.underlying144,hrow,Option.bind_some,h10,B8,hbr,hen,hle,AF,pr,hld,Of hx]
          rfl
        have hdat:SX (.slice (some (j,0)) x.length none)=some (.ptr (some (j,0))):=by rw[hm];rfl
        have hlen:Bb Tryz.prog s 22 (.slice (some (j,0)) x.length none)=some (iv (x.length:Int)):=AW Tryz.underlying22
        have hs0:s=ext s []:=(Ba s).symm
        rw[hs0]at hus hlen ⊢
        simp only[sj,lw,lx,Xt,Zn,h1,hlt,hlen,hdat,hus,Qa,Qb,Qc,Qd,Qf,Qh,Qi,Qj,Qk,Ql,Qm,Qn,true_and,Qo,Qp,Qq,Qr,Qs,Qu,Ra,Rg,Ri,Rj,Rk,Rm,Yc,Yd,Ye,We,Wm,Wn,Xe,List.getElem?_cons_zero,List.getElem?_cons_succ,tR]
        rw[Ba]
        refine hK _ ?_ fun q hq=>?_
        · unfold A3
          split
          · exact tJ _
          · rename_i p' _;cases Nat.beq p' j<;>exact tJ _
        · have hqj:q≠j:=fun e=>hq (by rw[e];exact tS)
          rw[Ww _ hqj]
          unfold A3
          split
          · rfl
          · rename_i p' hp'
            cases hb:Nat.beq p' j with
            | true=>rfl
            | false =>
              have hqp:q≠p':=fun e=>hq (by rw[e];rw[h12.1]at hp';rw[hp'];simp)
              show(Bx s p').heap.get q=_
              rw[BA,if_neg hqp]
end
end
end Go.Proofs.YtoaaclpjkelofaaGreatDoor.Am
set_option linter.unusedVariables false
set_option linter.unusedSimpArgs false
namespace Go.Proofs.YtoaaclpjkelofaaGreatDoor.Am
open Go Go.Proofs
noncomputable section
theorem gK{o:Option AI}{q n:Nat}{cs:List AV}(h:GR o q n=some cs){k:Nat}(hk:k<n):Jj o (q+k)=cs[k]? := by
 unfold GR at h
 simp only[tH]at h
 obtain⟨r,h1,h2⟩:=h
 obtain⟨h3,h4⟩:=AA h2
 have h3:q+n≤r.n:=by simpa[tK]using h3
 unfold Jj
 rw[h1,Option.bind_some,Py (show q+k<r.n by omega)]
 exact AE.take_get h4 k hk
def rf(l:List Int):List AV:=l.map iv
theorem kU(l:List Int):(rf l).length=l.length:=tz ..
theorem kT{l:List Int}{k:Nat}{x:Int}(h:l[k]? = some x):(rf l)[k]? = some (iv x):=by rw[rf,uG,h];rfl
def F7(s:AD)(v:AV)(l:List Int):Prop:=
 (l=[]∧v=.slice none 0 (some 0))∨∃j q cap,v=.slice (some (j,q)) l.length cap∧j<s.next∧GR (s.heap.get j) q l.length=some (rf l)
theorem F7.old{s s':AD}{v:AV}{l:List Int}(h:F7 s v l)(k:A9 s.next s s'):F7 s' v l:=by
 rcases h with h | ⟨j,q,cap,h2,h3,h4⟩
 ·exact .inl h
 ·exact .inr ⟨j,q,cap,h2,tO h3 k.1,by rw[k.2 j h3];exact h4⟩
theorem F7.at{s:AD}{l:List Int}{v:AV}(h:F7 s v l){k:Nat}{x:Int}(hk:l[k]? = some x):∃j q cap,v=.slice (some (j,q)) l.length cap∧j<s.next∧Jj (s.heap.get j) (q+k)=some (iv x):=by
 rcases h with⟨rfl,rfl⟩ | ⟨j,q,cap,rfl,h1,h2⟩
 ·simp at hk
 ·have hlt:k<l.length:=by
   rcases tL k l.length with h' | h'
   ·exact h'
   ·rw[tY h']at hk;cases hk
  exact⟨j,q,cap,rfl,h1,by rw[gK h2 hlt];exact kT hk⟩
theorem F7.len{s:AD}{l:List Int}{v:AV}(h:F7 s v l)(s':AD):Bb Tryz.prog s' 30 v=some (iv (l.length:Int)):=by
 rcases h with⟨rfl,rfl⟩ | ⟨j,q,cap,rfl,_⟩<;>exact AW Tryz.underlying30
end
end Go.Proofs.YtoaaclpjkelofaaGreatDoor.Am
set_option linter.unusedVariables false
set_option linter.unusedSimpArgs false
set_option maxRecDepth 12000
namespace Go.Proofs.YtoaaclpjkelofaaGreatDoor.Am
open Go Go.Proofs
noncomputable section
def EP(tx:Int→List Nat):List Int→List Nat
 | []=>[]
 | n::l=>tx n++32::EP tx l
theorem Jo(tx:Int→List Nat)(m:List Int):∀l:List Int,EP tx (l++m)=EP tx l++EP tx m
 | []=>rfl
 | n::l=>by simp only[List.cons_append,EP,Jo tx m l,tg]
theorem Ke(tx:Int→List Nat){B:Nat}:∀ {l:List Int},(∀n∈l,(tx n).length≤B)→(EP tx l).length≤l.length * (B+1)
 | [],_=>by simp[EP]
 | n::l,h=>by
  have h1:=h n tS
  have h2:=Ke tx (l:=l) fun m hm=>h m (tW _ hm)
  simp only[EP,tX,tq,tj]at h2 ⊢
  omega
theorem LW(tx:Int→List Nat):∀ {l:List Int},(∀n∈l,∀b∈tx n,b<256)→∀b∈EP tx l,b<256
 | [],_,b,hb=>by cases hb
 | n::l,h,b,hb=>by
  simp only[EP,uu,uT]at hb
  rcases hb with hb | rfl | hb
  ·exact h n tS b hb
  ·omega
  ·exact LW tx (fun m hm=>h m (tW _ hm)) b hb
section
variable{E:Ck}(hE:Ak E){s:AD}{v:AV}{l:List Int}(hv:F7 s v l)(hl:l.length≤1000000)(tx:Int→List Nat)
 (hI:∀n∈l,∀ (s':AD) (K:AV→AD→Prop),A9 s.next s s'→K (.str (tx n)) s'→WF E 59 [iv n] K s') (hB:∀n∈l,(tx n).length≤30) (hb:∀n∈l,∀b∈tx n,b<256)
include hE hv hl hI hB
theorem RK{i:Nat}(hi:s.next≤i){Q:Ax→Prop}(x1:AV)(hQ:∀ (s':AD)(O':List Nat)(y3 y7:AV),A9 s.next s s'→YX s' i (EP tx l) O'→(∀j∈O',s.next≤j)→Q ⟨.exit 0,[v,x1,.ptr (some (i,0)),y3,v,iv (l.length:Int),iv (l.length:Int),y7],[],s'⟩):
  ∀ (l2:List Int) (k:Nat) (s':AD) (O':List Nat) (x3 x7:AV),l.drop k=l2→k≤l.length→A9 s.next s s'→YX s' i (EP tx (l.take k)) O'→(∀j∈O',s.next≤j) →
   WC E none (.loop ST) Q [v,x1,.ptr (some (i,0)),x3,v,iv (l.length:Int),iv (k:Int),x7] [] s':=by
 intro l2
 induction l2 with
 | nil =>
  intro k s' O' x3 x7 hd hk ho hs hO
  have hkl:k=l.length:=by
   have:=congrArg List.length hd
   simp at this;omega
  subst hkl
  refine WC.loop' ?_
  simp only[ST,ee,Rx,Int.lt_irrefl,decide_false,Qa,Qb,Qc,Qd,Qf,Qh,Qj,Qm,Qn,true_and,Qo,Qp,Qq,Qr,Qs,Qu,Qz,Ra,Rc,Rd,Rx]
  rw[List.take_length]at hs
  exact hQ s' O' _ _ ho hs hO
 | cons n l2 ih =>
  intro k s' O' x3 x7 hd hk ho hs hO
  have hlt:k<l.length:=by
   rcases tL k l.length with h' | h'
   ·exact h'
   ·rw[uK h']at hd;cases hd
  have hn:l[k]? = some n:=by
   have:=congrArg (fun l=>l[0]?) hd
   simpa using this
  have hd':l.drop (k+1)=l2:=by
   have:=congrArg (List.drop 1) hd
   simpa[uM]using this
  have hnm:=tf hn
  obtain⟨j,q,cap,rfl,hj,hld⟩:=(hv.old ho).at hn
  have hkk:decide ((k:Int)<(l.length:Int))=true:=decide_eq_true (by omega)
  have e1:=Aw (cap:=cap) (i:=j) (o:=q) Tryz.underlying30 sz3 hlt
  have e2:AG Tryz.prog s' 3 (.ptr (some (j,q+k * 1)))=some (iv n):=by rw[We ag3,tT];exact hld
  have e3:=Bz Tryz.prog 3 (k:Int) 1 ⟨by omega,by omega⟩
  have e3':((k:Int)+1)=((k+1:Nat):Int):=by omega
  have htk:l.take (k+1)=l.take k++[n]:=by rw[List.take_add_one,hn];rfl
  have hlen:=Ke tx (B:=30) (l:=l.take k) fun m hm=>hB m (List.mem_of_mem_take hm)
  rw[tp]at hlen
  have hln:=hB n hnm
  have hadd:AP Tryz.prog .add 9 (.str (tx n)) (.str [32])=some (.str (tx n++[32])):=by
   show AF (Nat.ble ((tx n).length+[32].length) 1152921504606846976) _=_
   rw[CC (show(tx n).length+[32].length≤1152921504606846976 by simp;omega)];rfl
  refine WC.loop' ?_
  generalize hW:WC E none (Aa.loop ST) Q=W
  simp only[ST,ee,lj,ll,ln,Rx,hkk,e1,e2,Qa,Qb,Qc,Qd,Qf,Qh,Qi,Qj,Qk,Qm,Qn,true_and,Qo,Qp,Qq,Qr,Qs,Qu,Qy,Ra,Rc,Rd,Rx]
  refine hI n hnm s' _ ho ?_
  simp only[hadd,Qd,Qm,Qn,true_and,Qq,Qr]
  refine Vd hE hs (y:=tx n++[32]) (by simp) (by simp;omega) fun s2 O2 g1 g2 g3 g4=>?_
  simp only[e3,e3',Qd,Qm,Qn,true_and,Qo,Qp,Qq,Qr]
  rw[← hW]
  refine ih (k+1) s2 O2 _ _ hd' hlt ⟨by have:=ho.1;omega,fun j' hj'=>by rw[g3 j' (by have:=ho.1;omega) (by omega) (fun hm=>by have:=hO j' hm;omega)];exact ho.2 j' hj'⟩ ?_ (fun j' hj'=>(g4 j' hj').elim (hO j') (fun h=>by have:=ho.1;omega))
  rw[htk,Jo]
  exact g1
include hb
theorem VP(h0:0<l.length){K:AV→AD→Prop}(hK:∀s',A9 s.next s s'→K (.str (EP tx l)) s'):WF E 42 [v] K s:=by
 refine hE.go np (by decide) rfl ?_
 have hlen:=hv.len
 have hs0:s=ext s []:=(Ba s).symm
 generalize hs:s.next=b
 rw[hs0]
 simp only[se,lg,lh,li,Xa,sH,hs,hlen,Qa,Qb,Qc,Qd,Qf,Qh,Qi,Qj,Ql,Qm,Qn,true_and,Qo,Qp,Qq,Qr,Qs,Qu,Ra,Rg,Rj,Rk,Rm,Yc,Wp,Wq,Xa,Xb,Xg,uV,uv]
 have ho:A9 s.next s (ext s [R 108 0 false [.ptr none,.slice none 0 (some 0)]]):=⟨by rw[Wq,IZ];omega,fun j hj=>Wm hj⟩
 have hsb:YX (ext s [R 108 0 false [.ptr none,.slice none 0 (some 0)]]) (nid b 0) (EP tx (l.take 0)) []:=
  ⟨⟨_,_,by rw[Wl hs (by simp)];rfl,.inl rfl,.inl ⟨rfl,rfl,rfl,rfl⟩,fun i o n c r e=>by cases e⟩,by rw[Wq,hs,IZ,IZ];simp,by simp⟩
 refine RK hE hv hl tx hI hB (i:=nid b 0) (by rw[IZ];omega) _ (fun s' O' y3 y7 g1 g2 g3=>?_) l 0 _ [] _ _ rfl (tV _) ho hsb (fun j hj=>by cases hj)
 have hlen2:=Ke tx (B:=30) (l:=l) hB
 have hpos:0<(EP tx l).length:=by
  cases l with
  | nil=>simp at h0
  | cons n l=>simp only[EP,tX,tq];omega
 simp only[lq,Qb,Qc,Qd,Qf,Qh,Qj,Qk,Qm,Qn,true_and,Qq,Qr,Qs,Qu,Ra,Rc,Rf,Ri]
 refine Te hE g2 hpos (LW tx hb) (by omega) fun s2 k1 k2=>?_
 simp only[Qd,Qn,true_and,Qo,Qp,Qq,Qr]
 exact hK s2 ⟨by have:=g1.1;omega,fun j hj=>by rw[k2 j (fun hm=>by have:=g3 j hm;omega)];exact g1.2 j (by omega)⟩
end
end
end Go.Proofs.YtoaaclpjkelofaaGreatDoor.Am
set_option linter.unusedVariables false
set_option linter.unusedSimpArgs false
namespace Go.Proofs.YtoaaclpjkelofaaGreatDoor.Am
open Go Go.Proofs Go.WideElems Go.ChangeMaps
noncomputable section
set_option maxRecDepth 20000 in
theorem ZF{B off b1 b2:Nat}{d k st1 st2:Int}{u1 u2:Value}{w w2 w3 w4 w5:World}
  (hS:∀x,x=w∨x=w2∨x=w3∨x=w4∨x=w5→x.cell? ⟨B,off+1,none⟩=some (.map (some b1))∧x.cell? ⟨B,off+2,none⟩=some (.map (some b2)))
  (h1:(Instr.mapEntry 57 (.map (some b1)) (.int .i64 d)).run Tryz.prog w.drew=.ok (.tuple #[u1,.int .i64 st1]) w2)
  (h2:(Instr.entryStore 57 (.map (some b1)) (.int .i64 st1) (.agg #[])).run Tryz.prog w2=.ok () w3)
  (h3:(Instr.mapEntry 57 (.map (some b2)) (.int .i64 k)).run Tryz.prog w3=.ok (.tuple #[u2,.int .i64 st2]) w4)
  (h4:(Instr.entryStore 57 (.map (some b2)) (.int .i64 st2) (.agg #[])).run Tryz.prog w4=.ok () w5):
  Calls Tryz.prog 66 #[.pointer (some ⟨B,off,none⟩),.int .i64 d,.int .i64 k] w fun e w'=>e=.returned (.tuple #[])∧w'=w5:=by
 have hw:=hS w (.inl rfl)
 have hw2:=hS w2 (.inr (.inl rfl))
 have hw3:=hS w3 (.inr (.inr (.inl rfl)))
 have hw4:=hS w4 (.inr (.inr (.inr (.inl rfl))))
 have hw5:=hS w5 (.inr (.inr (.inr (.inr rfl))))
 have hb:∀u:World,(Instr.build 63 #[]).run Tryz.prog u=.ok (.agg #[]) u:=fun u=>by kernel_rfl
 go_enter Tryz.func66,Tryz.ntmps66
 go_region_held (fun w'=>w'.cell? ⟨B,off+1,none⟩=some (.map (some b1))∧w'.cell? ⟨B,off+2,none⟩=some (.map (some b2))) (go_keep) (fail)
 go_end0
 exact⟨rfl,rfl⟩
theorem Sk          {P : Program} {w : World} {t k e : TypeId} {b : Nat} {es : Array MapEntry} {clock : Nat} (K : Go.Maps.Keyed P k) (ht : P.underlying t = some (.map k e)) {z : Value} (hz : ∀ u : World, (zeroValue e).run P u = .ok z u) (hb : w.heap[b]? = some (.map es clock)) (hst : MapKept.Stamped es clock)
    (hty:∀e∈es.toList,∃l,keyOf P k e.key=some l) {key:Value} {kl:Lit} (hkey:keyOf P k key=some kl):
    ∃ (v0:Value) (st:Nat) (es1:Array MapEntry) (clock1:Nat),(Instr.mapEntry t (.map (some b)) key).run P w=.ok (.tuple #[v0,goInt st]) (setBlock w b (.map es1 clock1)) ∧
      ∀ (w2 : World) (val : Value), w2.heap[b]? = some (.map es1 clock1) → ∃ es' clock', (Instr.entryStore t (.map (some b)) (goInt st) val).run P w2 = .ok () (setBlock w2 b (.map es' clock')) ∧
        (Instr.mapUpdate t (.map (some b)) key val).run P w=.ok () (setBlock w b (.map es' clock')):=by
  obtain⟨s1,s2,_⟩:=hst
  have hu:=fun u:World=>AH (w:=u) ht
  rcases K.find w hkey es.toList hty with⟨h1,h2⟩ | ⟨j,e0,h1,h2,h3⟩
  · refine ⟨z, clock, es.push ⟨key, z, clock⟩, clock + 1, ?_, fun w2 val hw2 => ⟨es.push ⟨key, val, clock⟩, clock + 1, ?_, ?_⟩⟩
    · simp[Instr.mapEntry,hu,MapKept.run_getObj_map hb,K.check w false hkey,h1,hz,MapKept.run_setObj_map _ hb,Result.andThen,setBlock]
    · have hidx:(es.push ⟨key,z,clock⟩).findIdx? (fun e=>((e.born:Nat):Int) == ((clock:Nat):Int))=some es.size:=by
        rw[findIdx_arr]
        have:=findIdx_born (l:=(es.push ⟨key,z,clock⟩).toList) (j:=es.size) (e0:=⟨key,z,clock⟩) (by
          simp only[Array.toList_push,List.map_append,ta,List.map_nil]
          refine List.nodup_append.2 ⟨s2,by simp,fun a ha c hc e1=>?_⟩
          simp only[ul]at hc
          obtain⟨x,hx,rfl⟩:=List.mem_map.1 ha
          have:=s1 x hx
          omega) (by simp)
        exact this
      have hmod:(es.push ⟨key,z,clock⟩).modify es.size (fun e=>{ e with val:=val })=es.push ⟨key,val,clock⟩:=by
        apply Array.ext'
        rw[Array.toList_modify,Array.toList_push,Array.toList_push,← Array.length_toList,modify_last]
      simp[Instr.entryStore,MapKept.run_getObj_map hw2,asInt,asIntOf,goInt,hidx,hmod,MapKept.run_setObj_map _ hw2,Result.andThen,setBlock]
    · simp[Instr.mapUpdate,hu,MapKept.run_getObj_map hb,K.check w false hkey,h1,MapKept.run_setObj_map _ hb,Result.andThen,setBlock]
  · have hj : es[j]? = some e0 := by simpa using h2
    have hsame:es.modify j (fun e=>{ e with key:=key })=es:=by
      apply Array.ext'
      rw[Array.toList_modify,modify_eq_set _ _ _ _ h2]
      have:({ e0 with key:=key }:MapEntry)=e0:=by rw[← h3]
      rw[this]
      exact set_self _ _ _ h2
    refine⟨e0.val,e0.born,es,clock,?_,fun w2 val hw2=>⟨es.modify j (fun e'=>{ e' with key:=key,val:=val }),clock,?_,?_⟩⟩
    · simp[Instr.mapEntry,hu,MapKept.run_getObj_map hb,K.check w false hkey,h1,hj,h3,K.stays w hkey,hsame,MapKept.run_setObj_map _ hb,Result.andThen,setBlock]
    · have hidx:es.findIdx? (fun e=>((e.born:Nat):Int) == ((e0.born:Nat):Int))=some j:=by
        rw[findIdx_arr]
        exact findIdx_born s2 h2
      have hmod:es.modify j (fun e=>{ e with val:=val })=es.modify j (fun e'=>{ e' with key:=key,val:=val }):=by
        apply Array.ext'
        rw[Array.toList_modify,Array.toList_modify,modify_eq_set _ _ _ _ h2,modify_eq_set _ _ _ _ h2,← h3]
      simp[Instr.entryStore,MapKept.run_getObj_map hw2,asInt,asIntOf,goInt,hidx,hmod,MapKept.run_setObj_map _ hw2,Result.andThen,setBlock]
    · simp[Instr.mapUpdate,hu,MapKept.run_getObj_map hb,K.check w false hkey,h1,hj,h3,K.stays w hkey,MapKept.run_setObj_map _ hb,Result.andThen,setBlock]
def VS (s:AD):List AV→Option (AV×AD)
 | [.ptr (some (i,o)),.int .i64 d,.int .i64 k]=>(B1 s i (o+1)).bind fun m1=>(B1 s i (o+2)).bind fun m2=>match m1,m2 with
  | .map (some a),.map (some b)=>(IG s 3 a).bind fun es=>AF (Nat.ble es.length 1000000) <|
   (Gd Tryz.prog s 57 (.map (some a)) (.int .i64 d) (.agg [])).bind fun s1=>(IG s1 3 b).bind fun fs=>AF (Nat.ble fs.length 1000000) <|
   (Gd Tryz.prog s1 57 (.map (some b)) (.int .i64 k) (.agg [])).bind fun s2=>some (.tuple [],s2)
  | _,_=>none
 | _=>none
section
variable{ρ:A5}{s s1:AD}{w w1:World}
theorem IM(w:World){b c:Nat}(o:Obj)(h:c≠b)(n:Nat):(setBlock w b o).cell? ⟨c,n,none⟩=w.cell? ⟨c,n,none⟩:=
 GF (a:=⟨c,n,none⟩) (by simp[setBlock,Array.getElem?_setIfInBounds_ne (Ne.symm h)])
theorem Sj(h:As Tryz.prog ρ s w){a:Nat}{rb:RB}(hr:ρ a=some rb){es:List (AV×AV)}(hes:IG s 3 a=some es)(hl:es.length≤1000000){d:Int}(hu:Gd Tryz.prog s 57 (.map (some a)) (.int .i64 d) (.agg [])=some s1):
  ∃ (u:Value) (st:Int) (w2 w3:World),(Instr.mapEntry 57 (.map (some rb.b)) (.int .i64 d)).run Tryz.prog w=.ok (.tuple #[u,.int .i64 st]) w2∧(Instr.entryStore 57 (.map (some rb.b)) (.int .i64 st) (.agg #[])).run Tryz.prog w2=.ok () w3 ∧
   As Tryz.prog ρ s1 w3∧Fr ρ s w ρ s1 w3∧∀c n v,w.cell? ⟨c,n,none⟩=some v→w2.cell? ⟨c,n,none⟩=some v∧w3.cell? ⟨c,n,none⟩=some v:=by
 obtain⟨es',clock,e1,e2,⟨l,e3,e4⟩,e5⟩:=(show Gj Tryz.prog ρ w 3 es rb from h.obj a _ rb (Ex hes) hr).ex
 have hko:FG Tryz.prog 3=true:=by kernel_rfl
 have K:=G3 hko
 have hkey:E0 Tryz.prog 3 (.int .i64 d)=true:=by
  unfold Gd at hu
  simp only[Tryz.underlying57]at hu
  exact(AA hu).1
 obtain⟨lk,hx⟩:=EG hko hkey (.int (ρ:=ρ) .i64 d)
 obtain⟨w9,hrun,hinv,hfr⟩:=Im h (by kernel_rfl) hu (.map hr) (.int .i64 d) (.agg .nil)
 obtain⟨v0,st,es1,clock1,k1,k3⟩:=Sk K Tryz.underlying57 (z:=.agg #[]) (fun u=>by kernel_rfl) e1 e2 e5 hx
 have hb:(setBlock w rb.b (.map es1 clock1)).heap[rb.b]? = some (.map es1 clock1):=by simp[setBlock,h.lt a rb hr]
 obtain⟨es9,clock9,k4,k5⟩:=k3 (setBlock w rb.b (.map es1 clock1)) (.agg #[]) hb
 have hw9:w9=setBlock w rb.b (.map es9 clock9):=by
  have:=hrun.symm.trans k5
  injection this
 have hover:setBlock (setBlock w rb.b (.map es1 clock1)) rb.b (.map es9 clock9)=w9:=by rw[hw9];simp[setBlock]
 have hne:∀c n v,w.cell? ⟨c,n,none⟩=some v→c≠rb.b:=fun c n v hc e=>by subst e;simp[World.cell?,e1]at hc
 refine⟨v0,(st:Int),_,w9,k1,by rw[← hover];exact k4,hinv,hfr,fun c n v hc=>?_⟩
 have hcb:=hne c n v hc
 exact⟨by rw[IM _ _ hcb];exact hc,by rw[hw9,IM _ _ hcb];exact hc⟩
theorem ZE(h:As Tryz.prog ρ s w){ys:List AV}{as':Array Value}{v:AV}(hs:VS s ys=some (v,s1))(has:AJ ρ ys as'.toList):CallsIn Fence.wide 0 Tryz.prog 66 as' w (Bk Tryz.prog ρ s w v s1):=by
  refine callsIn_wide.2 ?_
  unfold VS at hs
  split at hs<;>first | (cases hs;done) | skip
  rename_i i o d k
  simp only[tH]at hs
  obtain⟨m1,hm1,m2,hm2,hs⟩:=hs
  split at hs<;>first | (cases hs;done) | skip
  rename_i a b
  simp only[tH]at hs
  obtain⟨es,hes,hs⟩:=hs
  obtain⟨hle,hs⟩:=AA hs
  simp only[tH]at hs
  obtain⟨sa,hua,fs,hfs,hs⟩:=hs
  obtain⟨hlf,hs⟩:=AA hs
  simp only[tH]at hs
  obtain⟨sb,hub,hs⟩:=hs
  injection hs with hs
  injection hs with q1 q2
  subst q1;subst q2
  obtain⟨l0⟩:=as'
  cases has with
  | cons p1 p2 =>
  cases p2 with
  | cons p2 p3 =>
  cases p3 with
  | cons p3 p4 =>
  cases p4
  cases p1 with
  | ptr hr =>
  rename_i rb
  cases p2
  cases p3
  obtain⟨u1,g1,c1⟩:=EO h hr hm1
  obtain⟨u2,g2,c2⟩:=EO h hr hm2
  cases g1 with
  | map ha =>
  cases g2 with
  | map hb =>
  rename_i ra rb2
  obtain⟨i0,f0⟩:=h.drew
  obtain⟨v1,st1,w2,w3,r1,r2,i1,f1,k1⟩:=Sj i0 ha hes (by simpa[tK]using hle) hua
  obtain⟨v2,st2,w4,w5,r3,r4,i2,f2,k2⟩:=Sj i1 hb hfs (by simpa[tK]using hlf) hub
  have d1:w.drew.cell? ⟨rb.b,rb.off+(o+1),none⟩=some (.map (some ra.b)):=c1
  have d2:w.drew.cell? ⟨rb.b,rb.off+(o+2),none⟩=some (.map (some rb2.b)):=c2
  have e1:=k1 _ _ _ d1
  have e2:=k1 _ _ _ d2
  have e3:=k2 _ _ _ e1.2
  have e4:=k2 _ _ _ e2.2
  rw[← tv]at c1 c2 e1 e2 e3 e4
  refine Calls.mono (ZF (B:=rb.b) (off:=rb.off+o) (b1:=ra.b) (b2:=rb2.b) (fun x hx=>?_) r1 r2 r3 r4) ?_
  · rcases hx with rfl | rfl | rfl | rfl | rfl
    · exact⟨c1,c2⟩
    · exact⟨e1.1,e2.1⟩
    · exact⟨e1.2,e2.2⟩
    · exact⟨e3.1,e4.1⟩
    · exact⟨e3.2,e4.2⟩
  · rintro e w' ⟨rfl,rfl⟩
    exact⟨ρ,.tuple .nil,i2,(f0.trans f1).trans f2⟩
end
def YB:CU:=Od 59 fun xs s=>Q3 s xs
theorem gh:Av Tryz.prog YB:=Cu fun ρ s w xs v s1 xs' hc hi hf ha=>⟨⟨_,_,Tryz.func59,rfl⟩,O3 hi hc ha⟩
theorem pO:Ak ⟨Tryz.prog,YB⟩:=⟨rfl,fun f xs s hf=>by
 have h1:Nat.beq f 59=false:=Cs fun e=>hf (by rw[e];decide)
 show YB f xs s=none
 simp[YB,Od,h1]⟩
def Vi(n:Int):List Nat:=IW n.toNat
def Rp:List Int→Bool
 | []=>true
 | .ofNat n::l=>Nat.blt n 100 && Rp l
 | _::_=>false
theorem PX:∀ {l:List Int},Rp l=true→∀n∈l,∃m:Nat,n=m∧m<100
 | [],_,n,h=>by cases h
 | .ofNat a::l,h,n,hn=>by
  simp only[Rp,Bool.and_eq_true,tP]at h
  rcases uT.1 hn with rfl | hn
  ·exact⟨a,rfl,h.1⟩
  ·exact PX h.2 n hn
 | .negSucc a::l,h,n,hn=>by cases h
theorem Tj{m:Nat}(h:m<100):(Vi (m:Int)).length≤30∧∀b∈Vi (m:Int),b<256:=by
 have e:Vi (m:Int)=IW m:=by unfold Vi;simp
 rw[e]
 unfold IW
 cases Nat.blt m 10 with
 | true=>exact⟨by simp,fun b hb=>by simp at hb;omega⟩
 | false=>exact⟨by simp,fun b hb=>by simp at hb;omega⟩
def NS(s:AD):List AV→Option (AV×AD)
 | [.slice (some (i,o)) n c]=>(BG s i o n).bind fun cs=>(Jb cs).bind fun l=>AF (Nat.blt 0 n && Nat.ble n 1000000 && Rp l) (Gv (EP Vi l) fun t=>some (.str t,s))
 | _=>none
theorem Oz:∀ {cs:List AV}{l:List Int},Jb cs=some l→cs=rf l
 | [],l,h=>by injection h with h;subst h;rfl
 | v::cs,l,h=>by
  unfold Jb at h
  split at h<;>first | (cases h;done) | skip
  ·rename_i hq;cases hq
  ·rename_i x l2 hq
   injection hq with q1 q2
   subst q1;subst q2
   simp only[tH]at h
   obtain⟨r,h1,h2⟩:=h
   injection h2 with h2
   subst h2
   rw[Oz h1];rfl
theorem TH{ρ:A5}{s s1:AD}{w:World}(h:As Tryz.prog ρ s w)(hf:Ah ρ s){ys:List AV}{as':Array Value}{v:AV}(hs:NS s ys=some (v,s1))(has:AJ ρ ys as'.toList):
  (∃fn c,Tryz.prog.funcs[42]? = some fn∧fn.body=some c)∧CallsIn Fence.wide 0 Tryz.prog 42 as' w (Bk Tryz.prog ρ s w v s1):=by
 unfold NS at hs
 split at hs<;>first | (cases hs;done) | skip
 rename_i i o n c
 simp only[tH]at hs
 obtain⟨cs,hl,l,hx,hs⟩:=hs
 obtain⟨hg,hs⟩:=AA hs
 simp only[Bool.and_eq_true,tK,tP]at hg
 rw[D3]at hs
 injection hs with hs
 injection hs with q1 q2
 subst q1;subst q2
 have hcs:=Oz hx
 obtain⟨r,hrow⟩:∃r,rowAt s i=some r:=by
  unfold BG at hl
  cases hrw:rowAt s i with
  | none=>rw[hrw]at hl;cases hl
  | some r=>exact⟨r,rfl⟩
 obtain⟨g1,g2⟩:=D5 hrow hl
 have hlen:l.length=n:=by
  have:=AE.take_length g2
  rw[hcs,kU]at this;exact this
 have hi:i<s.next:=by
  rcases tL i s.next with h' | h'
  ·exact h'
  ·have:=(hf i h').2
   rw[Ap hrow]at this;cases this
 have hsm:=PX hg.2
 refine Sp gh h hf has rfl ?_
 have hrd:F7 (frz s.next s.heap) (.slice (some (i,o)) n c) l:=by
  refine .inr ⟨i,o,c,by rw[hlen],hi,?_⟩
  have hfz:(frz s.next s.heap).heap.get i=some (.row { r with mode:=.ro,par:=none }):=by
   unfold frz
   simp only[AE.get_mapO,Ap hrow,Option.bind_some,Yt]
  rw[hfz,hlen]
  show AF (Nat.ble (o+n) r.n) (r.c.take o n)=_
  rw[CC g1,g2,hcs];rfl
 refine VP pO hrd (by omega) Vi (fun m hm s' K _ hK=>?_) (fun m hm=>?_) (fun m hm=>?_) (by omega) fun s' _=>rfl
 ·obtain⟨k,rfl,hk⟩:=hsm m hm
  refine WF.nat (p:=(.str (Vi (k:Int)),s')) ?_ hK
  have hb:Nat.blt k 100=true:=by simpa[tP]using hk
  show(AF (Nat.blt k 100) (Gv (IW k) fun t=>some (AV.str t,s')))=_
  rw[hb,D3];rfl
 ·obtain⟨k,rfl,hk⟩:=hsm m hm
  exact(Tj hk).1
 ·obtain⟨k,rfl,hk⟩:=hsm m hm
  exact(Tj hk).2
def gU:CU:=In nL (In (Od 66 fun xs s=>VS s xs) (Od 42 fun xs s=>NS s xs))
theorem TB:Av Tryz.prog gU:=BT gT (BT (Cu fun ρ s w xs v s1 xs' hc hi hf ha=>⟨⟨_,_,Tryz.func66,rfl⟩,ZE hi hc ha⟩)
 (Cu fun ρ s w xs v s1 xs' hc hi hf ha=>TH hi hf hc ha))
end
end Go.Proofs.YtoaaclpjkelofaaGreatDoor.Am
set_option linter.unusedVariables false
set_option linter.unusedSimpArgs false
namespace Go.Proofs.YtoaaclpjkelofaaGreatDoor.Am
open Go
noncomputable section
def rest:Nat→Code→Code
 | n+1,.seq a b=>rest n b
 | _,c=>c
def Tb:SB→SB→Bool
 | .ro,.ro | .own,.own | .sealed,.sealed=>true
 | _,_=>false
def Va:Option Nat→Option Nat→Bool
 | none,none=>true
 | some a,some b=>Nat.beq a b
 | _,_=>false
def iM(a b:Bool):Bool:=bif a then b else !b
def kM:List (AV×AV)→List (AV×AV)→Bool
 | [],[]=>true
 | a::l,b::m=>FT a.1 b.1 && (FT a.2 b.2 && kM l m)
 | _,_=>false
def TZ(n:Nat)(c c':AE AV):Bool:=match c.take 0 n,c'.take 0 n with
 | some l,some l'=>FT.eqAs l l'
 | _,_=>false
def sameO:AI→AI→Bool
 | .row q,.row r=>Nat.beq q.elem r.elem && (Nat.beq q.sz r.sz && (Nat.beq q.n r.n && (iM q.spare r.spare && (Tb q.mode r.mode && (Va q.par r.par && (iM q.bytes r.bytes && (Va q.glob r.glob && TZ r.n q.c r.c)))))))
 | .map kt es,.map kt' es'=>Nat.beq kt kt' && kM es es'
 | _,_=>false
def CO:List (Nat×AI)→AE AI
 | []=>.leaf
 | p::l=>(CO l).set p.1 p.2
structure Cut where
 lst:List (Nat×AI)
 nx:Nat
 var:List AV
def lI(l:List (Nat×AI))(nx:Nat)(h:AE AI):Bool:=l.all fun p=>Nat.blt p.1 nx && (match h.get p.1 with | some o=>sameO p.2 o | none=>false)
def km:List Nat→Bool
 | []=>true
 | _=>false
def sJ(r:Option Ax)(C:Cut):Bool:=match r with
 | some q=>Gy q.exit && (km q.marks && (er q.var C.var && (Nat.ble q.st.next C.nx && lI C.lst C.nx q.st.heap)))
 | none=>false
theorem FE:∀ {l:List (Nat×AI)}{i:Nat}{o:AI},(CO l).get i=some o→(i,o)∈l
 | [],i,o,h=>by cases h
 | p::l,i,o,h=>by
  unfold CO at h
  rw[AE.get_set]at h
  split at h
  ·rename_i e
   injection h with h
   subst e;subst h
   exact tS
  ·exact tW _ (FE h)
theorem PR:∀ {a b:Option Nat},Va a b=true→a=b
 | none,none,_=>rfl
 | some a,some b,h=>by rw[tM h]
theorem TY{a b:Bool}(h:iM a b=true):a=b:=by cases a<;>cases b<;>first | rfl | cases h
theorem Tc{a b:SB}(h:Tb a b=true):a=b:=by cases a<;>cases b<;>first | rfl | cases h
theorem QV:∀ {a b:List (AV×AV)},kM a b=true→a=b
 | [],[],_=>rfl
 | (a1,a2)::l,(b1,b2)::m,h=>by
  simp only[kM,Bool.and_eq_true]at h
  rw[FA h.1,FA h.2.1,QV h.2.2]
 | [],_::_,h=>by cases h
 | _::_,[],h=>by cases h
section
variable{P:Program}{ρ ρ1 ρ2:A5}{s s1 s2:AD}{w w1 w2:World}
theorem iV{l:List (Nat×AI)}{nx:Nat}{h:AE AI}(hs:lI l nx h=true){i:Nat}{o:AI}(hg:(CO l).get i=some o):i<nx∧∃o',h.get i=some o'∧sameO o o'=true:=by
 have:=uR.1 hs (i,o) (FE hg)
 simp only[Bool.and_eq_true]at this
 refine⟨uc this.1,?_⟩
 have h2:=this.2
 split at h2
 ·rename_i o' ho;exact⟨o',ho,h2⟩
 ·cases h2
end
def E6:AI→AI→Prop
 | .row q,.row r=>q.elem=r.elem∧q.sz=r.sz∧q.n=r.n∧q.spare=r.spare∧q.mode=r.mode∧q.par=r.par∧q.bytes=r.bytes∧q.glob=r.glob∧∃l,q.c.take 0 q.n=some l∧r.c.take 0 r.n=some l
 | .map kt es,.map kt' es'=>kt=kt'∧es=es'
 | _,_=>False
theorem Ta{n:Nat}{c c':AE AV}(h:TZ n c c'=true):∃l,c.take 0 n=some l∧c'.take 0 n=some l∧FT.eqAs l l=true:=by
 unfold TZ at h
 split at h<;>first | (cases h;done) | skip
 rename_i l l' h1 h2
 have:=FU h
 subst this
 exact⟨l,h1,h2,h⟩
theorem Hb{a b:AI}(h:sameO a b=true):E6 a b:=by
 unfold sameO at h
 split at h
 ·simp only[Bool.and_eq_true]at h
  obtain⟨h1,h2,h3,h4,h5,h6,h7,h8,h9⟩:=h
  obtain⟨l,k1,k2,_⟩:=Ta h9
  have e3:=tM h3
  exact⟨tM h1,tM h2,e3,TY h4,Tc h5,PR h6,TY h7,PR h8,l,by rw[e3];exact k1,k2⟩
 ·simp only[Bool.and_eq_true]at h
  exact⟨tM h.1,QV h.2⟩
 ·cases h
theorem E6.symm{a b:AI}(h:E6 a b):E6 b a:=by
 cases a<;>cases b<;>first | exact h.elim | skip
 ·obtain⟨h1,h2,h3,h4,h5,h6,h7,h8,l,h9,h10⟩:=h
  exact⟨h1.symm,h2.symm,h3.symm,h4.symm,h5.symm,h6.symm,h7.symm,h8.symm,l,h10,h9⟩
 ·exact⟨h.1.symm,h.2.symm⟩
theorem E6.trans{a b c:AI}(h:E6 a b)(k:E6 b c):E6 a c:=by
 cases a<;>cases b<;>first | exact h.elim | skip
 ·cases c<;>first | exact k.elim | skip
  obtain⟨h1,h2,h3,h4,h5,h6,h7,h8,l,h9,h10⟩:=h
  obtain⟨k1,k2,k3,k4,k5,k6,k7,k8,m,k9,k10⟩:=k
  rw[h10]at k9
  injection k9 with k9
  subst k9
  exact⟨h1.trans k1,h2.trans k2,h3.trans k3,h4.trans k4,h5.trans k5,h6.trans k6,h7.trans k7,h8.trans k8,l,h9,k10⟩
 ·cases c<;>first | exact k.elim | skip
  exact⟨h.1.trans k.1,h.2.trans k.2⟩
theorem Ks(a:Nat):Nat.beq a a=true:=by simp
theorem E6.sameO    {o a b : AI}   (h : E6    o a) (hb : sameO a b = true) : Am.sameO o a = true := by
  cases o<;>cases a<;>first | exact h.elim | skip
  · rename_i q r
    obtain⟨qe,qs,qn,qc,qsp,qm,qp,qb,qg⟩:=q
    obtain⟨re,rs,rn,rc,rsp,rm,rp,rb,rg⟩:=r
    obtain⟨h1,h2,h3,h4,h5,h6,h7,h8,l,h9,h10⟩:=h
    simp only at h1 h2 h3 h4 h5 h6 h7 h8 h9 h10
    subst h1;subst h2;subst h3;subst h4;subst h5;subst h6;subst h7;subst h8
    cases b with
    | row t =>
      simp only[Am.sameO,Bool.and_eq_true]at hb
      obtain⟨_,_,g3,_,_,_,_,_,g9⟩:=hb
      have e3:qn=t.n:=tM g3
      rw[← e3]at g9
      obtain⟨l',k1,_,k3⟩:=Ta g9
      have k1:rc.take 0 qn=some l':=k1
      rw[h10]at k1
      injection k1 with k1
      subst k1
      have e9:TZ qn qc rc=true:=by unfold TZ;rw[h9,h10];exact k3
      simp only[Am.sameO,Bool.and_eq_true]
      refine⟨Ks _,Ks _,Ks _,by cases qsp<;>rfl,by cases qm<;>rfl,?_,by cases qb<;>rfl,?_,e9⟩
      · cases qp with
        | none=>rfl
        | some x=>exact Ks x
      · cases qg with
        | none=>rfl
        | some x=>exact Ks x
    | _=>cases hb
  · obtain⟨h1,h2⟩:=h
    subst h1;subst h2
    cases b with
    | map kt' es' =>
      simp only[Am.sameO,Bool.and_eq_true]at hb ⊢
      have:=QV hb.2
      rw[← this]at hb
      exact⟨Ks _,hb.2⟩
    | _=>cases hb
theorem E6.ok{P:Program}{o o':AI}(h:E6 o o'):wr o=wr o'∧FJ o=FJ o'∧EY o=EY o'∧∀ {ρ:A5}{w:World}{rb:RB},DK P ρ w o' rb→DK P ρ w o rb:=by
 cases o<;>cases o'<;>first | exact h.elim | skip
 ·rename_i q r
  obtain⟨qe,qs,qn,qc,qsp,qm,qp,qb,qg⟩:=q
  obtain⟨re,rs,rn,rc,rsp,rm,rp,rb,rg⟩:=r
  obtain⟨h1,h2,h3,h4,h5,h6,h7,h8,l,h9,h10⟩:=h
  simp only at h1 h2 h3 h4 h5 h6 h7 h8 h9 h10
  subst h1;subst h2;subst h3;subst h4;subst h5;subst h6;subst h7;subst h8
  refine⟨rfl,rfl,rfl,fun {ρ w x} hok=>?_⟩
  have hok:BF ρ w ⟨qe,qs,qn,rc,qsp,qm,qp,qb,qg⟩ x:=hok
  have hc:∀k,k<qn→qc.get k=rc.get k:=fun k hk=>by
   have a1:=AE.take_get h9 k hk
   have a2:=AE.take_get h10 k hk
   simp only[tR]at a1 a2
   rw[a1,a2]
  exact(show BF ρ w ⟨qe,qs,qn,qc,qsp,qm,qp,qb,qg⟩ x from
   ⟨fun k v hk hv=>hok.cells k v hk (by rw[← hc k hk];exact hv),hok.le,hok.sz,hok.tight,hok.own,hok.base,hok.gl,hok.par⟩)
 ·obtain⟨h1,h2⟩:=h
  subst h1;subst h2
  exact⟨rfl,rfl,rfl,fun h=>h⟩
def CJ(L:List (Nat×AI))(i:Nat):Bool:=L.any fun p=>Nat.beq p.1 i
def IK(h:AE AI)(p:Nat×AI):AE AI:=match h.get p.1 with
 | some o=>bif sameO o p.2 then h else h.set p.1 p.2
 | none=>h.set p.1 p.2
def over(h:AE AI):List (Nat×AI)→AE AI
 | []=>h
 | p::l=>over (IK h p) l
def fA(h:AE AI):List Nat→AE AI
 | []=>h
 | i::l=>fA (h.del i) l
theorem Ox{L:List (Nat×AI)}{i:Nat}:CJ L i=true↔∃o,(i,o)∈L:=by
 unfold CJ
 rw[List.any_eq_true]
 constructor
 ·rintro⟨⟨j,o⟩,h1,h2⟩;have:=tM h2;subst this;exact⟨o,h1⟩
 ·rintro⟨o,h⟩;exact⟨(i,o),h,Ks i⟩
theorem VR(h:AE AI)(p:Nat×AI):∃o,(IK h p).get p.1=some o∧(o=p.2∨sameO o p.2=true):=by
  unfold IK
  cases hg:h.get p.1 with
  | none=>exact⟨p.2,by simp only;rw[AE.get_set,if_pos rfl],.inl rfl⟩
  | some o =>
    simp only
    cases hs:sameO o p.2 with
    | true=>exact⟨o,hg,.inr hs⟩
    | false=>exact⟨p.2,by rw[cond_false,AE.get_set,if_pos rfl],.inl rfl⟩
theorem LY{h:AE AI}{p:Nat×AI}{i:Nat}(hi:i≠p.1):(IK h p).get i=h.get i:=by
  unfold IK
  cases hg:h.get p.1 with
  | none=>simp only;rw[AE.get_set,if_neg hi]
  | some o =>
    simp only
    cases hs:sameO o p.2 with
    | true=>rfl
    | false=>rw[cond_false,AE.get_set,if_neg hi]
theorem GV{i:Nat}:∀ {L:List (Nat×AI)}{h:AE AI},CJ L i=false→(over h L).get i=h.get i
 | [],h,_=>rfl
 | p::l,h,hi=>by
  simp only[CJ,List.any_cons,Bool.or_eq_false_iff]at hi
  have hne:i≠p.1:=fun e=>by rw[e,Ks]at hi;cases hi.1
  show(over (IK h p) l).get i=_
  rw[GV (L:=l) hi.2,LY hne]
theorem TK       {i : Nat} : ∀ {L : List (Nat × AI)}   {h : AE   AI},   CJ    L i = true → ∃ o, (over h L).get i = some o ∧ ∃ p ∈ L, p.1 = i ∧ (o = p.2 ∨ sameO o p.2 = true)
  | [],h,hi=>by cases hi
  | p::l,h,hi=>by
    show ∃o,(over (IK h p) l).get i=some o∧_
    cases hl:CJ l i with
    | true =>
      obtain⟨o,h1,q,h2,h3⟩:=TK (h:=IK h p) hl
      exact⟨o,h1,q,tW _ h2,h3⟩
    | false =>
      have he:p.1=i:=by
        unfold CJ at hi hl
        rw[List.any_cons,hl,Bool.or_false]at hi
        exact tM hi
      subst he
      obtain⟨o,h1,h2⟩:=VR h p
      exact⟨o,by rw[GV hl];exact h1,p,tS ..,rfl,h2⟩
theorem PJ{i:Nat}{o:AI}:∀ {L:List (Nat×AI)}{h:AE AI},h.get i=some o→(∀p∈L,p.1=i→sameO o p.2=true)→(over h L).get i=some o
 | [],h,hg,_=>hg
 | p::l,h,hg,hk=>by
  show(over (IK h p) l).get i=_
  refine PJ ?_ fun q hq=>hk q (tW _ hq)
  by_cases he:i=p.1
  ·subst he
   unfold IK
   rw[hg]
   simp only
   rw[hk p (tS ..) rfl,cond_true]
   exact hg
  ·rw[LY he];exact hg
theorem SY{i:Nat}:∀ {D:List Nat}{h:AE AI},(fA h D).get i=if i∈D then none else h.get i
  | [],h=>by simp[fA]
  | j::l,h=>by
    show(fA (h.del j) l).get i=_
    rw[SY,AE.get_del]
    by_cases h1:i∈l
    · simp[h1]
    · by_cases h2 : i = j
      · subst h2;simp[h1]
      · simp[h1,h2]
def Zp{α:Type}(f:Nat→α→Bool):AE α→Nat→Nat→Bool
 | .leaf,_,_=>true
 | .node v l r,a,b=>(match v with | some x=>f b x | none=>true) && (Zp f l (2 * a) (a+b) && Zp f r (2 * a) (2 * a+b))
theorem MQ       {α : Type} {f : Nat → α → Bool} : ∀ {t : AE   α} {a b k : Nat} {x : α}, Zp   f t a b = true → t.get k = some x → f (a * k + b) x = true
  | .leaf,_,_,_,_,_,h=>by cases h
  | .node v l r, a, b, k, x, h, hg => by
    simp only[Zp,Bool.and_eq_true]at h
    cases k with
    | zero =>
      have hg:v=some x:=hg
      have h1:=h.1
      rw[hg]at h1
      simpa using h1
    | succ k =>
      rw[AE.get_succ]at hg
      by_cases he:k % 2=0
      · rw[if_pos he]at hg
        have:=MQ h.2.1 hg
        have e:2 * a * (k / 2)+(a+b)=a * (k+1)+b:=by
          have:2 * a * (k / 2)=a * k:=by rw[tU 2 a,tb];congr 1;omega
          rw[this,th];omega
        rw[e]at this;exact this
      · rw[if_neg he]at hg
        have:=MQ h.2.2 hg
        have e:2 * a * (k / 2)+(2 * a+b)=a * (k+1)+b:=by
          have h2:k=2 * (k / 2)+1:=by omega
          generalize k / 2=m at *
          subst h2
          rw[th,th,← tb,tU a 2];omega
        rw[e]at this;exact this
abbrev iQ(n:Int):AV:=.int .i64 n
abbrev zQ:AV:=.int .i64 0
abbrev eQ:AV:=.str []
abbrev pQ(i:Nat):AV:=.ptr (some (i,0))
abbrev nQ:AV:=.slice none 0 (some 0)
abbrev vQ(i n:Nat):AV:=.slice (some (i,0)) n none
abbrev rQ(e sz n:Nat)(sp:Bool)(l:List AV):AI:=.row ⟨e,sz,n,AE.fill .leaf 0 l,sp,.own,none,true,none⟩
structure Ch where
 f:FuncId
 xs:List AV
 n0:Nat
 L0:List (Nat×AI)
 v:AV
 n1:Nat
 L1:List (Nat×AI)
 D:List Nat
def Ch.at(r:Ch):CU:=fun f xs s=>AF (Nat.beq f r.f && (FT (.tuple xs) (.tuple r.xs) && (Nat.beq s.next r.n0 && (lI r.L0 r.n0 s.heap && Zp (fun i o=>CJ r.L0 i || (match FJ o with | some k=>!CJ r.L0 k | none=>true)) s.heap 1 0)))) (some (r.v,⟨r.n1,fA (over s.heap r.L1) r.D⟩))
def iL(r:Ch)(v:AV)(q:AD):Bool:=
 FT v r.v && (Nat.ble r.n0 r.n1 && (Nat.ble q.next r.n1 && (lI r.L1 r.n1 q.heap && ((r.L1.all fun p=>CJ r.L0 p.1 || Nat.ble r.n0 p.1) && ((r.D.all fun i=>CJ r.L0 i && ((q.heap.get i).isNone && !CJ r.L1 i)) &&
 ((r.L0.all fun p=>CJ r.L1 p.1 || (r.D.any (Nat.beq p.1) || (match q.heap.get p.1 with | some o=>sameO p.2 o | none=>false))) &&
 (r.L0.all fun p=>match FJ p.2 with | some k=>CJ r.L0 k | none=>true)))))))
def Cy (E:Ck) (n:Nat) (r:Ch):Bool:=match (DF E n).call r.f r.xs ⟨r.n0,CO r.L0⟩with
 | some p=>iL r p.1 p.2
 | none=>false
theorem FF{i:Nat}:∀ {L:List (Nat×AI)},CJ L i=true→∃o,(CO L).get i=some o
  | [],h=>by cases h
  | p::l,h=>by
    show ∃o,((CO l).set p.1 p.2).get i=some o
    rw[AE.get_set]
    by_cases e:i=p.1
    · exact⟨p.2,if_pos e⟩
    · rw [if_neg e]
      refine FF ?_
      unfold CJ at h ⊢
      rw[List.any_cons,Bool.or_eq_true]at h
      rcases h with h | h
      · exact absurd (tM h).symm e
      · exact h
theorem Ch.callOk   {P : Program} (hm : P.follows .mixedOrders = true) (hng : EC      P) {E : Ck}  (hE : E.P = P) (hnat : Av     P E.nat) {n : Nat} {r : Ch}   (hrow : Cy     E n r = true) : Av     P r.at := by
  intro ρ s w f xs v s1 xs' hc hi hf ha
  unfold Ch.at at hc
  obtain⟨hg,hc2⟩:=AA hc
  simp only[Bool.and_eq_true]at hg
  obtain⟨g1,g2,g3,hsub,hall⟩:=hg
  have e1:=tM g1
  have e2:=FA g2
  injection e2 with e2
  have hn0:=tM g3
  subst e1;subst e2
  injection hc2 with hc2
  injection hc2 with ev es
  unfold Cy at hrow
  cases hrun:(DF E n).call r.f r.xs ⟨r.n0,CO r.L0⟩with
  | none=>rw[hrun]at hrow;cases hrow
  | some p =>
  rw[hrun]at hrow
  obtain⟨pv,q⟩:=p
  have hrow:iL r pv q=true:=hrow
  unfold iL at hrow
  simp only[Bool.and_eq_true]at hrow
  obtain⟨c1,c2,c3,c4,c5,c6,c7,c8⟩:=hrow
  have hpv:=FA c1
  have hn01:=uc c2
  have hq1:=uc c3
  subst hpv
  have sub0:∀i o,(CO r.L0).get i=some o→i<r.n0∧CJ r.L0 i=true∧∃o',s.heap.get i=some o'∧E6 o o'∧sameO o o'=true:=fun i o hg=>by
    obtain⟨h1,o',h2,h3⟩:=iV hsub hg
    exact⟨h1,Ox.2 ⟨o,FE hg⟩,o',h2,Hb h3,h3⟩
  have hi0:As P ρ ⟨r.n0,CO r.L0⟩ w:=by
    refine⟨fun i o rb hg hρ=>?_,hi.lt,fun i j oi oj ri rj hne hgi hgj hri hrj hb hw=>?_,fun i o g hg hgl=>?_⟩
    · obtain⟨_,_,o',k1,k2,_⟩:=sub0 i o hg
      exact(k2.ok).2.2.2 (hi.obj i o' rb k1 hρ)
    · obtain ⟨_, _, oi', k1, k2, _⟩ := sub0 i oi hgi
      obtain⟨_,_,oj',m1,m2,_⟩:=sub0 j oj hgj
      obtain⟨a1,a2,_⟩:=k2.ok (P:=P)
      obtain⟨b1,b2,_⟩:=m2.ok (P:=P)
      rw[b1]at hw
      rw[a1,b2]
      exact hi.sep i j oi' oj' ri rj hne k1 m1 hri hrj hb hw
    · obtain⟨_,_,o',k1,k2,_⟩:=sub0 i o hg
      rw[(k2.ok (P:=P)).2.2.1]at hgl
      exact hi.glb i o' g k1 hgl
  have hf0:Ah ρ ⟨r.n0,CO r.L0⟩:=fun i hi'=>by
    have hi':r.n0≤i:=hi'
    refine⟨(hf i (by omega)).1,?_⟩
    cases hg:(CO r.L0).get i with
    | none=>rfl
    | some o=>have:=(sub0 i o hg).1;omega
  have hcall:=(sK hm hng hE hnat n).call ρ ⟨r.n0,CO r.L0⟩ w r.f r.xs r.v q xs' hrun hi0 hf0 ha
  refine⟨hcall.1,CallsIn.mono hcall.2 ?_⟩
  intro e w' he
  cases e with
  | panicked c=>exact he.elim
  | outgrown=>exact he.elim
  | returned v' =>
  obtain⟨ρ',k1,k2,k3⟩:=he
  refine⟨ρ',by rw[← ev];exact k1,?_⟩
  have hn1:s1.next=r.n1:=by rw[← es]
  have hget:∀i,s1.heap.get i=if i∈r.D then none else (over s.heap r.L1).get i:=fun i=>by rw[← es];exact SY
  have hL1:∀p∈r.L1,p.1<r.n1∧∃oq,q.heap.get p.1=some oq∧sameO p.2 oq=true:=fun p hp=>by
    have:=uR.1 c4 p hp
    simp only[Bool.and_eq_true]at this
    refine⟨uc this.1,?_⟩
    have h2:=this.2
    split at h2
    · rename_i oq ho;exact⟨oq,ho,h2⟩
    · cases h2
  have cls:∀i o,s1.heap.get i=some o→(∃oq,q.heap.get i=some oq∧E6 o oq∧(CJ r.L0 i=true∨r.n0≤i))∨(i<r.n0∧CJ r.L0 i=false∧s.heap.get i=some o):=by
    intro i o ho
    rw[hget]at ho
    by_cases hD:i∈r.D
    · rw[if_pos hD]at ho;cases ho
    rw[if_neg hD]at ho
    cases hl:CJ r.L1 i with
    | true =>
      obtain⟨o',h1,p,h2,h3,h4⟩:=TK (h:=s.heap) hl
      rw[h1]at ho
      injection ho with ho
      subst ho
      obtain⟨h5,oq,h6,h7⟩:=hL1 p h2
      have h8:E6 o' oq:=by
        rcases h4 with rfl | h4
        · exact Hb h7
        · exact(Hb h4).trans (Hb h7)
      subst h3
      refine .inl ⟨oq,h6,h8,?_⟩
      have:=uR.1 c5 p h2
      simp only[Bool.or_eq_true]at this
      exact this.imp id fun h=>uc h
    | false =>
      rw[GV hl]at ho
      have hin:i<r.n0:=by
        rcases tL i s.next with h | h
        · omega
        · rw[(hf i h).2]at ho;cases ho
      cases hl0:CJ r.L0 i with
      | false=>exact .inr ⟨hin,rfl,ho⟩
      | true =>
        obtain⟨o0,h1⟩:=FF hl0
        obtain⟨_,_,o',h2,h3,_⟩:=sub0 i o0 h1
        rw[ho]at h2
        injection h2 with h2
        subst h2
        have:=uR.1 c7 (i,o0) (FE h1)
        simp only[Bool.or_eq_true,hl]at this
        rcases this with h | h | h
        · cases h
        · obtain⟨j,hj,he⟩:=List.any_eq_true.1 h
          have:=tM he
          subst this
          exact absurd hj hD
        · split at h
          · rename_i oq hoq;exact .inl ⟨oq,hoq,h3.symm.trans (Hb h),.inl rfl⟩
          · cases h
  have back:∀i rb,i<r.n0→ρ' i=some rb→ρ i=some rb:=fun i rb hin hr=>by
    cases h:ρ i with
    | none=>rw[k3.fresh i h (.inl hin)]at hr;cases hr
    | some rb'=>have:=k3.le _ _ h;rw[hr]at this;exact this.symm▸rfl
  have notOwned:∀i o ri,s.heap.get i=some o→CJ r.L0 i=false→ρ i=some ri→¬ Ee ρ ⟨r.n0,CO r.L0⟩ ri.b:=by
    rintro i o ri ho hl hri ⟨j,oj,rj,hj,hw,hrj,hb⟩
    obtain⟨_,m1,oj',m2,m3,_⟩:=sub0 j oj hj
    obtain⟨b1,b2,_⟩:=m3.ok (P:=P)
    have hne:i≠j:=fun e=>by rw[e,m1]at hl;cases hl
    have hpar:=(hi.sep i j o oj' ri rj hne ho m2 hri hrj hb.symm (by rw[← b1];exact hw)).1
    rw[← b2]at hpar
    have:=uR.1 c8 (j,oj) (FE hj)
    simp only[hpar]at this
    rw[this]at hl
    cases hl
  have owned0:∀b,Ee ρ ⟨r.n0,CO r.L0⟩ b→Ee ρ s b:=by
    rintro b ⟨j,oj,rj,hj,hw,hrj,hb⟩
    obtain⟨_,_,oj',m2,m3,_⟩:=sub0 j oj hj
    exact⟨j,oj',rj,m2,by rw[← (m3.ok (P:=P)).1];exact hw,hrj,hb⟩
  have ownedQ:∀i oq rb,q.heap.get i=some oq→wr oq=true→ρ' i=some rb→rb.b<w.heap.size→Ee ρ ⟨r.n0,CO r.L0⟩ rb.b:=fun i oq rb ho hw hr hlt=>by
    rcases k3.own rb.b ⟨i,oq,rb,ho,hw,hr,rfl⟩with h | h
    · exact h
    · omega
  refine⟨⟨fun i o rb ho hr=>?_,k2.lt,fun i j oi oj ri rj hne hoi hoj hri hrj hb hw=>?_,fun i o g ho hg=>?_⟩,?_⟩
  · rcases cls i o ho with ⟨oq, h1, h2, _⟩ | ⟨h1, h2, h3⟩
    · exact h2.ok.2.2.2 (k2.obj i oq rb h1 hr)
    · have hr0:=back i rb h1 hr
      exact(hi.obj i o rb h3 hr0).mono k3.le (k3.keep rb.b (hi.lt i rb hr0) (notOwned i o rb h3 h2 hr0))
  · rcases cls i oi hoi with ⟨oqi, h1, h2, h2'⟩ | ⟨h1, h2, h3⟩
    · rcases cls j oj hoj with ⟨oqj, m1, m2, _⟩ | ⟨m1, m2, m3⟩
      · obtain ⟨a1, a2, _⟩ := h2.ok (P := P)
        obtain⟨b1,b2,_⟩:=m2.ok (P:=P)
        rw[b1]at hw
        rw[a1,b2]
        exact k2.sep i j oqi oqj ri rj hne h1 m1 hri hrj hb hw
      · have hrj0 := back j rj m1 hrj
        have hno:=notOwned j oj rj m3 m2 hrj0
        have npar:∀k,CJ r.L0 k=true→FJ oj≠some k:=fun k hk e=>by
          have:=MQ hall m3
          rw[show 1 * j+0=j from by omega,m2]at this
          simp[e,hk]at this
        have hbl:ri.b<w.heap.size:=by rw[hb];exact hi.lt j rj hrj0
        rcases h2' with h2' | h2'
        · obtain ⟨o0, hh⟩ := FF         h2'
          obtain⟨g1,_,oi',g2,_⟩:=sub0 i o0 hh
          exact absurd (hi.sep i j oi' oj ri rj hne g2 m3 (back i ri g1 hri) hrj0 hb hw).1 (npar i h2')
        · have hri0:ρ i=none:=(hf i (by omega)).1
          rcases k3.blk i ri hri hri0 with h | ⟨j0,o0,rj0,q1,q2,q3⟩
          · omega
          · obtain⟨_,q4,oj0,q5,q6,_⟩:=sub0 j0 o0 q1
            have hne0:j0≠j:=fun e=>by rw[e,m2]at q4;cases q4
            exact absurd (hi.sep j0 j oj0 oj rj0 rj hne0 q5 m3 q2 hrj0 (q3.trans hb) hw).1 (npar j0 q4)
    · have hri0:=back i ri h1 hri
      rcases cls j oj hoj with⟨oqj,m1,m2,_⟩ | ⟨m1,m2,m3⟩
      · rw[(m2.ok (P:=P)).1]at hw
        have:=ownedQ j oqj rj m1 hw hrj (by rw[← hb];exact hi.lt i ri hri0)
        rw[← hb]at this
        exact absurd this (notOwned i oi ri h3 h2 hri0)
      · exact hi.sep i j oi oj ri rj hne h3 m3 hri0 (back j rj m1 hrj) hb hw
  · rcases cls i o ho with ⟨oq, h1, h2, _⟩ | ⟨h1, h2, h3⟩
    · rw[(h2.ok (P:=P)).2.2.1]at hg
      exact k2.glb i oq g h1 hg
    · obtain⟨rb,h4⟩:=hi.glb i o g h3 hg
      exact⟨rb,k3.le _ _ h4⟩
  · refine ⟨k3.le, fun i h hor => k3.fresh i h ?_, by rw [hn1, hn0]; exact hn01, k3.size, k3.os, k3.tape, k3.output, fun b hb ho => k3.keep b hb fun h => ho (owned0 b h), fun b hb => ?_, fun i h hor => ?_, fun i rb hr h0 => ?_, fun i o rb ho h0 => ?_⟩
    · rw[hn1,hn0]at hor
      exact hor.imp id fun h=>tN hq1 h
    · obtain⟨i,o,rb,ho,hw,hr,hb⟩:=hb
      rcases cls i o ho with⟨oq,h1,h2,_⟩ | ⟨h1,h2,h3⟩
      · rw [(h2.ok (P := P)).1] at hw
        rcases k3.own b ⟨i,oq,rb,h1,hw,hr,hb⟩with h | h
        · exact .inl (owned0 b h)
        · exact .inr h
      · exact .inl ⟨i,o,rb,h3,hw,back i rb h1 hr,hb⟩
    · rw [hn1, hn0] at hor
      rw[hget]
      have hD:i ∉ r.D:=fun hD=>by
        have:=uR.1 c6 i hD
        simp only[Bool.and_eq_true,Option.isNone_iff_eq_none]at this
        obtain⟨d1,d2,_⟩:=this
        obtain⟨o0,hh⟩:=FF d1
        have hin:=(sub0 i o0 hh).1
        have:=k3.unborn i h (.inl hin)
        rw[d2]at this
        have hh':(⟨r.n0,CO r.L0⟩:AD).heap.get i=some o0:=hh
        rw[hh']at this
        cases this
      rw[if_neg hD]
      cases hl:CJ r.L1 i with
      | false=>exact GV hl
      | true =>
        obtain⟨o1,h1⟩:=Ox.1 hl
        have hlt:=(hL1 _ h1).1
        have hlt:i<r.n1:=hlt
        have hin:i<r.n0:=by omega
        have hl0:CJ r.L0 i=true:=by
          have:=uR.1 c5 _ h1
          simp only[Bool.or_eq_true]at this
          rcases this with h' | h'
          · exact h'
          · have:=uc h';omega
        obtain⟨o0,hh⟩:=FF hl0
        obtain⟨_,_,o,g2,g3,_⟩:=sub0 i o0 hh
        have hq:=k3.unborn i h (.inl hin)
        have hh':(⟨r.n0,CO r.L0⟩:AD).heap.get i=some o0:=hh
        rw[hh']at hq
        rw[g2]
        refine PJ g2 fun p hp hpi=>?_
        obtain⟨_,oq,m1,m2⟩:=hL1 p hp
        rw[hpi,hq]at m1
        injection m1 with m1
        subst m1
        exact(g3.symm.trans (Hb m2).symm).sameO m2
    · rcases k3.blk i rb hr h0 with h | ⟨j0, o0, rj0, q1, q2, q3⟩
      · exact .inl h
      · obtain⟨_,_,oj0,q5,_⟩:=sub0 j0 o0 q1
        exact .inr ⟨j0,oj0,rj0,q5,q2,q3⟩
    · rcases cls i o ho with ⟨oq, h1, h2, h3⟩ | ⟨h1, h2, h3⟩
      · obtain ⟨o0, q1⟩ := k3.dom i oq rb h1 h0
        obtain⟨_,_,o',q5,_⟩:=sub0 i o0 q1
        exact⟨o',q5⟩
      · exact⟨o,h3⟩
end
end Go.Proofs.YtoaaclpjkelofaaGreatDoor.Am
set_option linter.unusedVariables false
set_option maxRecDepth 100000
namespace Go.Proofs.YtoaaclpjkelofaaGreatDoor.Am
open Go Go.Proofs
noncomputable section
def kH:AV×AV:=(.agg [zQ,iQ 1,zQ,zQ,zQ,eQ],zQ)
def kI:AV×AV:=(.agg [zQ,iQ 2,zQ,zQ,zQ,eQ],iQ 1)
def kJ:AV×AV:=(.agg [iQ 2,zQ,zQ,zQ,zQ,.str [34,97,34]],iQ 2)
def kK:AV×AV:=(.agg [iQ 2,zQ,zQ,zQ,zQ,.str [110,117,108,108]],iQ 3)
def kL:AV×AV:=(.agg [iQ 2,zQ,zQ,zQ,zQ,.str [40,100,105,99,116,41]],iQ 4)
def fa:AV×AV:=(.agg [zQ,zQ,zQ,zQ,eQ],zQ)
def fb:AV×AV:=(.agg [iQ 1,zQ,zQ,zQ,eQ],iQ 1)
def fe:AV×AV:=(.agg [iQ 8,zQ,zQ,iQ 2,eQ],iQ 2)
def OM:List AV:=[zQ,zQ,zQ,zQ,eQ,nQ,.bool false,nQ,nQ,nQ,nQ,iQ 1,.str [116,114,117,101]]
def ON:List AV:=[iQ 1,zQ,zQ,zQ,eQ,nQ,.bool false,nQ,nQ,nQ,nQ,iQ 1,.str [102,97,108,115,101]]
def K9:List AV:=[zQ,iQ 1,zQ,zQ,zQ,eQ,zQ,.bool false,eQ,eQ,nQ,nQ,zQ,zQ,iQ 1,.map (some 17)]
def LA:List AV:=[zQ,iQ 2,zQ,zQ,zQ,eQ,zQ,.bool false,eQ,eQ,nQ,nQ,zQ,zQ,iQ 1,.map (some 23)]
def LC:List AV:=[iQ 2,zQ,zQ,zQ,zQ,.str [34,97,34],iQ 3,.bool false,eQ,.str [97],nQ,nQ,zQ,zQ,iQ 1,.map (some 46)]
def LD:List AV:=[iQ 2,zQ,zQ,zQ,zQ,.str [110,117,108,108],zQ,.bool false,eQ,eQ,nQ,nQ,zQ,zQ,iQ 1,.map (some 62)]
def My:List AV:=[iQ 2,zQ,zQ,zQ,zQ,.str [40,100,105,99,116,41],iQ 4,.bool false,eQ,eQ,nQ,nQ,zQ,zQ,iQ 1,.map (some 80)]
def JV:List AV:=[iQ 8,zQ,zQ,iQ 2,eQ,nQ,.bool false,nQ,nQ,nQ,nQ,iQ 3,.str [40,104,97,115,32,120,49,32,34,97,34,41]]
def fV:AV×AV:=(.agg [iQ 3,zQ,zQ,iQ 2,zQ,eQ],iQ 5)
def XS:AV×AV:=(.agg [iQ 4,zQ,zQ,zQ,.str [50,32]],iQ 3)
def XT:AV×AV:=(.agg [iQ 7,iQ 4,zQ,iQ (-1),eQ],iQ 4)
def XU:AV×AV:=(.agg [iQ 6,zQ,iQ 5,iQ 3,eQ],iQ 5)
def XV:AV×AV:=(.agg [iQ 6,zQ,iQ 4,zQ,eQ],iQ 6)
def XW:AV×AV:=(.agg [iQ 4,zQ,zQ,zQ,.str [54,32]],iQ 7)
def XX:AV×AV:=(.agg [iQ 3,zQ,zQ,zQ,.str [51,32,52,32]],iQ 8)
def XY:AV×AV:=(.agg [iQ 3,zQ,zQ,zQ,.str [50,32,53,32]],iQ 9)
def XZ:AV×AV:=(.agg [iQ 3,zQ,zQ,zQ,.str [51,32,55,32]],iQ 10)
def Sg:List AV:=[iQ 3,zQ,zQ,iQ 2,zQ,eQ,zQ,.bool false,eQ,eQ,nQ,nQ,zQ,iQ 2,iQ 3,.map (some 257)]
def LE:List AV:=[iQ 4,zQ,zQ,zQ,.str [50,32],.slice (some (217,0)) 1 (some 1),.bool false,nQ,nQ,nQ,nQ,iQ 4,.str [40,110,111,116,32,40,104,97,115,32,120,49,32,34,97,34,41,41]]
def LF:List AV:=[iQ 7,iQ 4,zQ,iQ (-1),eQ,nQ,.bool false,nQ,nQ,nQ,nQ,iQ 2,.str [40,100,105,99,116,63,32,120,49,41]]
def LG:List AV:=[iQ 6,zQ,iQ 5,iQ 3,eQ,nQ,.bool false,nQ,nQ,nQ,nQ,iQ 5,.str [40,61,32,40,103,101,116,32,120,49,32,34,97,34,41,32,110,117,108,108,41]]
def LH:List AV:=[iQ 6,zQ,iQ 4,zQ,eQ,nQ,.bool false,nQ,nQ,nQ,nQ,iQ 3,.str [40,61,32,40,100,105,99,116,41,32,120,49,41]]
def LJ:List AV:=[iQ 4,zQ,zQ,zQ,.str [54,32],.slice (some (326,0)) 1 (some 1),.bool false,nQ,nQ,nQ,nQ,iQ 4,.str [40,110,111,116,32,40,61,32,40,100,105,99,116,41,32,120,49,41,41]]
def LK:List AV:=[iQ 3,zQ,zQ,zQ,.str [51,32,52,32],vQ 368 2,.bool false,nQ,nQ,nQ,nQ,iQ 7,.str [40,111,114,32,40,100,105,99,116,63,32,120,49,41,32,40,110,111,116,32,40,104,97,115,32,120,49,32,34,97,34,41,41,41]]
def LL:List AV:=[iQ 3,zQ,zQ,zQ,.str [50,32,53,32],vQ 424 2,.bool false,nQ,nQ,nQ,nQ,iQ 9,.str [40,111,114,32,40,61,32,40,103,101,116,32,120,49,32,34,97,34,41,32,110,117,108,108,41,32,40,104,97,115,32,120,49,32,34,97,34,41,41]]
def Mz:List AV:=[iQ 3,zQ,zQ,zQ,.str [51,32,55,32],vQ 458 2,.bool false,nQ,nQ,nQ,nQ,iQ 9,.str [40,111,114,32,40,110,111,116,32,40,61,32,40,100,105,99,116,41,32,120,49,41,41,32,40,110,111,116,32,40,104,97,115,32,120,49,32,34,97,34,41,41,41]]
def mQ:AV×AV:=(.agg [iQ 3,zQ,iQ 4,iQ 2,zQ,eQ],iQ 6)
def mR:AV×AV:=(.agg [iQ 4,zQ,zQ,iQ 2,iQ 1,eQ],iQ 7)
def rS:List AV:=[vQ 832 8,.map (some 0)]
def fW:AV×AV:=(.agg [iQ 6,zQ,iQ 6,zQ,eQ],iQ 11)
def fX:AV×AV:=(.agg [iQ 6,zQ,iQ 6,iQ 3,eQ],iQ 12)
def fY:AV×AV:=(.agg [iQ 6,zQ,iQ 7,zQ,eQ],iQ 13)
def rT:List AV:=[pQ 1,vQ 879 14,.map (some 2),nQ,.map (some 3)]
def Xc:List AV:=[iQ 3,zQ,iQ 4,iQ 2,zQ,eQ,zQ,.bool false,eQ,eQ,nQ,nQ,zQ,iQ 2,iQ 3,.map (some 477)]
def Oq:List AV:=[iQ 6,zQ,iQ 6,zQ,eQ,nQ,.bool false,nQ,nQ,nQ,nQ,iQ 5,.str [40,61,32,40,103,101,116,32,40,100,105,99,116,41,32,34,97,34,41,32,120,49,41]]
def Ot:List AV:=[iQ 6,zQ,iQ 6,iQ 3,eQ,nQ,.bool false,nQ,nQ,nQ,nQ,iQ 5,.str [40,61,32,40,103,101,116,32,40,100,105,99,116,41,32,34,97,34,41,32,110,117,108,108,41]]
def fZ:List AV:=[iQ 4,zQ,zQ,iQ 2,iQ 1,eQ,zQ,.bool false,eQ,eQ,nQ,nQ,zQ,iQ 3,iQ 4,.map (some 829)]
def Si:List AV:=[iQ 6,zQ,iQ 7,zQ,eQ,nQ,.bool false,nQ,nQ,nQ,nQ,iQ 6,.str [40,61,32,40,115,101,116,32,120,49,32,34,97,34,32,120,50,41,32,120,49,41]]
def rU:AV×AV:=(.agg [iQ 3,zQ,iQ 7,iQ 2,zQ,eQ],iQ 8)
def rV:List AV:=[vQ 1321 9,.map (some 0)]
def mS:AV×AV:=(.agg [iQ 8,zQ,iQ 7,iQ 2,eQ],iQ 14)
def mT:AV×AV:=(.agg [iQ 4,zQ,zQ,zQ,.str [49,52,32]],iQ 15)
def mU:AV×AV:=(.agg [iQ 7,iQ 4,iQ 7,iQ (-1),eQ],iQ 16)
def mV:AV×AV:=(.agg [iQ 6,zQ,iQ 8,iQ 3,eQ],iQ 17)
def mW:AV×AV:=(.agg [iQ 6,zQ,iQ 4,iQ 7,eQ],iQ 18)
def mX:AV×AV:=(.agg [iQ 4,zQ,zQ,zQ,.str [49,56,32]],iQ 19)
def rW:List AV:=[iQ 3,zQ,iQ 7,iQ 2,zQ,eQ,zQ,.bool false,eQ,eQ,nQ,nQ,zQ,iQ 2,iQ 6,.map (some 1318)]
def Xh:List AV:=[iQ 8,zQ,iQ 7,iQ 2,eQ,nQ,.bool false,nQ,nQ,nQ,nQ,iQ 6,.str [40,104,97,115,32,40,115,101,116,32,120,49,32,34,97,34,32,120,50,41,32,34,97,34,41]]
def Xi:List AV:=[iQ 4,zQ,zQ,zQ,.str [49,52,32],.slice (some (1265,0)) 1 (some 1),.bool false,nQ,nQ,nQ,nQ,iQ 7,.str [40,110,111,116,32,40,104,97,115,32,40,115,101,116,32,120,49,32,34,97,34,32,120,50,41,32,34,97,34,41,41]]
def Xj:List AV:=[iQ 7,iQ 4,iQ 7,iQ (-1),eQ,nQ,.bool false,nQ,nQ,nQ,nQ,iQ 5,.str [40,100,105,99,116,63,32,40,115,101,116,32,120,49,32,34,97,34,32,120,50,41,41]]
def Xk:List AV:=[iQ 6,zQ,iQ 8,iQ 3,eQ,nQ,.bool false,nQ,nQ,nQ,nQ,iQ 8,.str [40,61,32,40,103,101,116,32,40,115,101,116,32,120,49,32,34,97,34,32,120,50,41,32,34,97,34,41,32,110,117,108,108,41]]
def Xq:List AV:=[iQ 6,zQ,iQ 4,iQ 7,eQ,nQ,.bool false,nQ,nQ,nQ,nQ,iQ 6,.str [40,61,32,40,100,105,99,116,41,32,40,115,101,116,32,120,49,32,34,97,34,32,120,50,41,41]]
def fc:List AV:=[iQ 4,zQ,zQ,zQ,.str [49,56,32],.slice (some (1439,0)) 1 (some 1),.bool false,nQ,nQ,nQ,nQ,iQ 7,.str [40,110,111,116,32,40,61,32,40,100,105,99,116,41,32,40,115,101,116,32,120,49,32,34,97,34,32,120,50,41,41,41]]
def mY:List AV:=[iQ 3,zQ,zQ,zQ,.str [49,53,32,49,54,32],vQ 1486 2,.bool false,nQ,nQ,nQ,nQ,iQ 13,.str [40,111,114,32,40,100,105,99,116,63,32,40,115,101,116,32,120,49,32,34,97,34,32,120,50,41,41,32,40,110,111,116,32,40,104,97,115,32,40,115,101,116,32,120,49,32,34,97,34,32,120,50,41,32,34,97,34,41,41,41]]
def mZ:List AV:=[iQ 3,zQ,zQ,zQ,.str [49,52,32,49,55,32],vQ 1542 2,.bool false,nQ,nQ,nQ,nQ,iQ 15,.str [40,111,114,32,40,61,32,40,103,101,116,32,40,115,101,116,32,120,49,32,34,97,34,32,120,50,41,32,34,97,34,41,32,110,117,108,108,41,32,40,104,97,115,32,40,115,101,116,32,120,49,32,34,97,34,32,120,50,41,32,34,97,34,41,41]]
def mc:List AV:=[iQ 3,zQ,zQ,zQ,.str [49,53,32,49,57,32],vQ 1576 2,.bool false,nQ,nQ,nQ,nQ,iQ 15,.str [40,111,114,32,40,110,111,116,32,40,61,32,40,100,105,99,116,41,32,40,115,101,116,32,120,49,32,34,97,34,32,120,50,41,41,41,32,40,110,111,116,32,40,104,97,115,32,40,115,101,116,32,120,49,32,34,97,34,32,120,50,41,32,34,97,34,41,41,41]]
def md:List AV:=[iQ 4,zQ,zQ,zQ,.str [52,32],.slice (some (1679,0)) 1 (some 1),.bool false,nQ,nQ,nQ,nQ,iQ 3,.str [40,110,111,116,32,40,100,105,99,116,63,32,120,49,41,41]]
def me:List AV:=[iQ 6,zQ,iQ 8,iQ 1,eQ,nQ,.bool false,nQ,nQ,nQ,nQ,iQ 8,.str [40,61,32,40,103,101,116,32,40,115,101,116,32,120,49,32,34,97,34,32,120,50,41,32,34,97,34,41,32,120,50,41]]
def mf:List AV:=[iQ 6,zQ,iQ 8,iQ 5,eQ,nQ,.bool false,nQ,nQ,nQ,nQ,iQ 10,.str [40,61,32,40,103,101,116,32,40,115,101,116,32,120,49,32,34,97,34,32,120,50,41,32,34,97,34,41,32,40,103,101,116,32,120,49,32,34,97,34,41,41]]
def mh:List AV:=[iQ 3,zQ,zQ,zQ,.str [52,32,49,51,32],vQ 2019 2,.bool false,nQ,nQ,nQ,nQ,iQ 9,.str [40,111,114,32,40,61,32,40,115,101,116,32,120,49,32,34,97,34,32,120,50,41,32,120,49,41,32,40,100,105,99,116,63,32,120,49,41,41]]
def ml:List AV:=[iQ 3,zQ,zQ,zQ,.str [49,54,32,50,51,32],vQ 2074 2,.bool false,nQ,nQ,nQ,nQ,iQ 9,.str [40,111,114,32,40,100,105,99,116,63,32,40,115,101,116,32,120,49,32,34,97,34,32,120,50,41,41,32,40,110,111,116,32,40,100,105,99,116,63,32,120,49,41,41,41]]
def mm:List AV:=[iQ 3,zQ,zQ,zQ,.str [50,51,32,50,52,32],vQ 2109 2,.bool false,nQ,nQ,nQ,nQ,iQ 12,.str [40,111,114,32,40,61,32,40,103,101,116,32,40,115,101,116,32,120,49,32,34,97,34,32,120,50,41,32,34,97,34,41,32,120,50,41,32,40,110,111,116,32,40,100,105,99,116,63,32,120,49,41,41,41]]
def oz:Nat×AI:=(3,.map 94 [])
def pA:Nat×AI:=(17,.map 3 [(iQ 1,iQ 1)])
def pB:Nat×AI:=(23,.map 3 [(iQ 2,iQ 1)])
def pC:Nat×AI:=(46,.map 3 [])
def pD:Nat×AI:=(62,.map 3 [])
def pE:Nat×AI:=(80,.map 3 [])
def pF:Nat×AI:=(217,rQ 3 1 1 false [iQ 2])
def pG:Nat×AI:=(257,.map 3 [(iQ 1,iQ 1)])
def pH:Nat×AI:=(326,rQ 3 1 1 false [iQ 6])
def pI:Nat×AI:=(368,rQ 3 1 2 true [iQ 3,iQ 4])
def ff:Nat×AI:=(424,rQ 3 1 2 true [iQ 2,iQ 5])
def fg:Nat×AI:=(458,rQ 3 1 2 true [iQ 3,iQ 7])
def mn:Nat×AI:=(0,.map 53 [kH,kI,kJ,kK,kL,fV,mQ,mR])
def mo:Nat×AI:=(1,rQ 100 0 2 false rS)
def mp:Nat×AI:=(2,.map 76 [fa,fb,fe,XS,XT,XU,XV,XW,XX,XY,XZ,fW,fX,fY])
def mq:Nat×AI:=(4,rQ 49 0 5 false rT)
def mr:Nat×AI:=(477,.map 3 [])
def ms:Nat×AI:=(480,.row ⟨71,16,112,AE.fill .leaf 0 (K9++(LA++(LC++(LD++(My++(Sg++(Xc))))))),true,.sealed,none,true,none⟩)
def mt:Nat×AI:=(705,.row ⟨86,13,169,AE.fill .leaf 0 (OM++(ON++(JV++(LE++(LF++(LG++(LH++(LJ++(LK++(LL++(Mz++(Oq++(Ot))))))))))))),true,.sealed,none,true,none⟩)
def mu:Nat×AI:=(829,.map 3 [(iQ 1,iQ 1),(iQ 2,iQ 1)])
def mw:Nat×AI:=(832,.row ⟨71,16,128,AE.fill .leaf 0 (K9++(LA++(LC++(LD++(My++(Sg++(Xc++(fZ)))))))),true,.own,(some 480),true,none⟩)
def my:Nat×AI:=(879,.row ⟨86,13,182,AE.fill .leaf 0 (OM++(ON++(JV++(LE++(LF++(LG++(LH++(LJ++(LK++(LL++(Mz++(Oq++(Ot++(Si)))))))))))))),true,.own,(some 705),true,none⟩)
def mz:Nat×AI:=(0,.map 53 [kH,kI,kJ,kK,kL,fV,mQ,mR,rU])
def nA:Nat×AI:=(1,rQ 100 0 2 false rV)
def nB:Nat×AI:=(832,.row ⟨71,16,128,AE.fill .leaf 0 (K9++(LA++(LC++(LD++(My++(Sg++(Xc++(fZ)))))))),true,.sealed,none,true,none⟩)
def nC:Nat×AI:=(1265,rQ 3 1 1 false [iQ 14])
def nD:Nat×AI:=(1318,.map 3 [(iQ 1,iQ 1),(iQ 2,iQ 1)])
def nE:Nat×AI:=(1321,.row ⟨71,16,144,AE.fill .leaf 0 (K9++(LA++(LC++(LD++(My++(Sg++(Xc++(fZ++(rW))))))))),true,.own,(some 832),true,none⟩)
def nF:Nat×AI:=(1439,rQ 3 1 1 false [iQ 18])
def ou:CU:=gU
def tE:Ch:=⟨11,[pQ 4,.slice (some (103,0)) 1 (some 1)],104,[(0,.map 53 [kH,kI,kJ,kK,kL]),(1,rQ 100 0 2 false [vQ 83 5,.map (some 0)]),(2,.map 76 [fa,fb,fe]),oz,(4,rQ 49 0 5 false [pQ 1,vQ 102 3,.map (some 2),nQ,.map (some 3)]),(14,.row ⟨86,13,26,AE.fill .leaf 0 (OM++(ON)),true,.sealed,none,true,none⟩),pA,pB,pC,pD,(65,.row ⟨71,16,64,AE.fill .leaf 0 (K9++(LA++(LC++(LD)))),true,.sealed,none,true,none⟩),pE,(83,.row ⟨71,16,80,AE.fill .leaf 0 (K9++(LA++(LC++(LD++(My))))),true,.own,(some 65),true,none⟩),(102,.row ⟨86,13,39,AE.fill .leaf 0 (OM++(ON++(JV))),true,.own,(some 14),true,none⟩),(103,rQ 3 1 1 false [iQ 2])],vQ 471 3,472,[(0,.map 53 [kH,kI,kJ,kK,kL,fV]),(1,rQ 100 0 2 false [vQ 260 6,.map (some 0)]),(2,.map 76 [fa,fb,fe,XS,XT,XU,XV,XW,XX,XY,XZ]),(4,rQ 49 0 5 false [pQ 1,vQ 467 11,.map (some 2),nQ,.map (some 3)]),(83,.row ⟨71,16,80,AE.fill .leaf 0 (K9++(LA++(LC++(LD++(My))))),true,.sealed,none,true,none⟩),pF,pG,(260,.row ⟨71,16,96,AE.fill .leaf 0 (K9++(LA++(LC++(LD++(My++(Sg)))))),true,.own,(some 83),true,none⟩),pH,pI,ff,(433,.row ⟨86,13,130,AE.fill .leaf 0 (OM++(ON++(JV++(LE++(LF++(LG++(LH++(LJ++(LK++(LL)))))))))),true,.sealed,none,true,none⟩),fg,(467,.row ⟨86,13,143,AE.fill .leaf 0 (OM++(ON++(JV++(LE++(LF++(LG++(LH++(LJ++(LK++(LL++(Mz))))))))))),true,.own,(some 433),true,none⟩),(471,rQ 3 1 3 true [iQ 8,iQ 9,iQ 10])],[14,65,102]⟩
def ov:CU:=In tE.at ou
def tF:Ch:=⟨68,[pQ 887,iQ 7,iQ 2],1203,[mn,mo,mp,oz,mq,pA,pB,pC,pD,pE,pF,pG,pH,pI,ff,fg,mr,ms,mt,mu,mw,my,(884,.map 3 [(zQ,.agg []),(iQ 7,.agg [])]),(885,.map 3 [(iQ 2,.agg [])]),(886,.map 3 [(iQ 7,.agg []),(zQ,.agg []),(iQ 2,.agg []),(iQ 1,.agg [])]),(887,rQ 117 0 4 false [pQ 4,.map (some 884),.map (some 885),.map (some 886)])],.func 132 [] [pQ 1453],1454,[mz,nA,(2,.map 76 [fa,fb,fe,XS,XT,XU,XV,XW,XX,XY,XZ,fW,fX,fY,mS,mT,mU,mV,mW,mX]),(4,rQ 49 0 5 false [pQ 1,vQ 1443 20,.map (some 2),nQ,.map (some 3)]),nB,nC,(1297,rQ 3 1 2 false [iQ 15,iQ 16]),(1312,rQ 3 1 2 false [iQ 15,zQ]),nD,nE,(1387,rQ 3 1 2 false [iQ 14,iQ 17]),(1434,.row ⟨86,13,247,AE.fill .leaf 0 (OM++(ON++(JV++(LE++(LF++(LG++(LH++(LJ++(LK++(LL++(Mz++(Oq++(Ot++(Si++(Xh++(Xi++(Xj++(Xk++(Xq))))))))))))))))))),true,.sealed,none,true,none⟩),nF,(1443,.row ⟨86,13,260,AE.fill .leaf 0 (OM++(ON++(JV++(LE++(LF++(LG++(LH++(LJ++(LK++(LL++(Mz++(Oq++(Ot++(Si++(Xh++(Xi++(Xj++(Xk++(Xq++(fc)))))))))))))))))))),true,.own,(some 1434),true,none⟩),(1451,rQ 3 1 2 false [iQ 19,iQ 15]),(1452,rQ 30 1 4 false [.slice (some (1297,0)) 2 (some 2),.slice (some (1312,0)) 2 (some 2),.slice (some (1387,0)) 2 (some 2),.slice (some (1451,0)) 2 (some 2)]),(1453,rQ 155 0 1 false [.slice (some (1452,0)) 4 (some 4)])],[480,705,879]⟩
def ow:CU:=In tF.at ov
def tG:Ch:=⟨11,[pQ 4,.slice (some (880,0)) 1 (some 1)],881,[mn,mo,mp,oz,mq,pA,pB,pC,pD,pE,pF,pG,pH,pI,ff,fg,mr,ms,mt,mu,mw,my,(880,rQ 3 1 1 false [iQ 13])],vQ 2220 10,2221,[mz,nA,(2,.map 76 [fa,fb,fe,XS,XT,XU,XV,XW,XX,XY,XZ,fW,fX,fY,mS,mT,mU,mV,mW,mX,(.agg [iQ 3,zQ,zQ,zQ,.str [49,53,32,49,54,32]],iQ 20),(.agg [iQ 3,zQ,zQ,zQ,.str [49,52,32,49,55,32]],iQ 21),(.agg [iQ 3,zQ,zQ,zQ,.str [49,53,32,49,57,32]],iQ 22),(.agg [iQ 4,zQ,zQ,zQ,.str [52,32]],iQ 23),(.agg [iQ 6,zQ,iQ 8,iQ 1,eQ],iQ 24),(.agg [iQ 6,zQ,iQ 8,iQ 5,eQ],iQ 25),(.agg [iQ 3,zQ,zQ,zQ,.str [52,32,49,51,32]],iQ 26),(.agg [iQ 3,zQ,zQ,zQ,.str [49,54,32,50,51,32]],iQ 27),(.agg [iQ 3,zQ,zQ,zQ,.str [50,51,32,50,52,32]],iQ 28),(.agg [iQ 3,zQ,zQ,zQ,.str [49,52,32,50,51,32]],iQ 29)]),(4,rQ 49 0 5 false [pQ 1,vQ 2153 30,.map (some 2),nQ,.map (some 3)]),nB,nC,nD,nE,nF,(1486,rQ 3 1 2 true [iQ 15,iQ 16]),(1542,rQ 3 1 2 true [iQ 14,iQ 17]),(1576,rQ 3 1 2 true [iQ 15,iQ 19]),(1679,rQ 3 1 1 false [iQ 4]),(2019,rQ 3 1 2 true [iQ 4,iQ 13]),(2074,rQ 3 1 2 true [iQ 16,iQ 23]),(2109,rQ 3 1 2 true [iQ 23,iQ 24]),(2118,.row ⟨86,13,377,AE.fill .leaf 0 (OM++(ON++(JV++(LE++(LF++(LG++(LH++(LJ++(LK++(LL++(Mz++(Oq++(Ot++(Si++(Xh++(Xi++(Xj++(Xk++(Xq++(fc++(mY++(mZ++(mc++(md++(me++(mf++(mh++(ml++(mm))))))))))))))))))))))))))))),true,.sealed,none,true,none⟩),(2144,rQ 3 1 2 true [iQ 14,iQ 23]),(2153,.row ⟨86,13,390,AE.fill .leaf 0 (OM++(ON++(JV++(LE++(LF++(LG++(LH++(LJ++(LK++(LL++(Mz++(Oq++(Ot++(Si++(Xh++(Xi++(Xj++(Xk++(Xq++(fc++(mY++(mZ++(mc++(md++(me++(mf++(mh++(ml++(mm++([iQ 3,zQ,zQ,zQ,.str [49,52,32,50,51,32],vQ 2144 2,.bool false,nQ,nQ,nQ,nQ,iQ 10,.str [40,111,114,32,40,104,97,115,32,40,115,101,116,32,120,49,32,34,97,34,32,120,50,41,32,34,97,34,41,32,40,110,111,116,32,40,100,105,99,116,63,32,120,49,41,41,41]])))))))))))))))))))))))))))))),true,.own,(some 2118),true,none⟩),(2220,rQ 3 1 10 true [iQ 8,iQ 9,iQ 10,iQ 20,iQ 21,iQ 22,iQ 26,iQ 27,iQ 28,iQ 29])],[480,705,879]⟩
def rR:CU:=In tG.at ow
end
end Go.Proofs.YtoaaclpjkelofaaGreatDoor.Am
