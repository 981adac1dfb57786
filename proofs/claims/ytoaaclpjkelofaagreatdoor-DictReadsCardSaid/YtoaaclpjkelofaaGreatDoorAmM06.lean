/- strconv.Itoa of any number, slices.Sort of texts, that the abstract machine runs by itself, out of the library's contracts; conditions: none. -/
import Derived.Test.YtoaaclpjkelofaaGreatDoorAmM05
import Derived.Test.YtoaaclpjkelofaaGreatDoorAmM01
import Derived.Test.YtoaaclpjkelofaaGreatDoorProg
import Derived.Deep.RegionHeld
import Derived.Tactics
import Derived.Tactics2
import Derived.WideKeyEntry
import Derived.Test.YtoaaclpjkelofaaGreatDoorAmM04
set_option linter.all false
namespace Go.Proofs.YtoaaclpjkelofaaGreatDoor.Am
open Go Go.Proofs Go.RowKit
noncomputable section
open Tryz
def FE:List AV:=[.int .u64 1,.int .u64 10,.int .u64 100,.int .u64 1000,.int .u64 10000,.int .u64 100000,.int .u64 1000000,.int .u64 10000000,.int .u64 100000000,.int .u64 1000000000,.int .u64 10000000000,.int .u64 100000000000,.int .u64 1000000000000,.int .u64 10000000000000,.int .u64 100000000000000,.int .u64 1000000000000000,.int .u64 10000000000000000,.int .u64 100000000000000000,.int .u64 1000000000000000000,.int .u64 10000000000000000000]
section
variable{ρ:DV}{s s1:CO}{w w1:World}
theorem DU.growS(h:DU prog ρ s w)(os:Array Obj):DU prog ρ s (Go.Sort.grow w os)∧Fr ρ s w ρ s (Go.Sort.grow w os):=
 h.grown ⟨rfl,rfl,rfl,by simp[Go.Sort.grow],fun k hk _=>by simp[Go.Sort.grow,Array.getElem?_append_left hk]⟩
theorem DU.aheadS(h:DU prog ρ s w)(n:Nat):DU prog ρ s (Go.Sort.ahead w n)∧Fr ρ s w ρ s (Go.Sort.ahead w n):=
 h.grown ⟨rfl,rfl,rfl,A8H _,fun k hk _=>rfl⟩
def Gt (n:Int):List Nat:=(Go.Lib.itoa n).map fun(x:UInt8)=>x.toNat
def Ma (s:CO):List AV→Option (AV×CO)
 | [.int .i64 n]=>CU (D7 .i64 n && Ja s 1 FE) (some (.str (Gt n),s))
 | _=>none
theorem uC : prog.globalNamed "internal/strconv.uint64pow10" = some 1 := by kernel_rfl
theorem fN{n:Int}(h:D7 .i64 n=true):i64 n:=by
  unfold D7 at h
  unfold i64
  cases n with
  | ofNat m => have : m ≤ 9223372036854775807 := by simpa [A8Q]        using h
               simp only[Int.ofNat_eq_natCast];constructor<;>omega
  | negSucc m => have : m ≤ 9223372036854775807 := by simpa [A8Q]        using h
                 constructor<;>omega
theorem fR(h:DU prog ρ s w){ys:List AV}{as':Array Value}{v:AV}(hs:Ma s ys=some (v,s1))(has:Cb ρ ys as'.toList):CallsIn Fence.wide 0 prog 59 as' w (Ey prog ρ s w v s1):=by
  refine callsIn_wide.2 ?_
  unfold Ma at hs
  split at hs<;>first | (cases hs;done) | skip
  rename_i n
  obtain⟨hg,hs⟩:=CM hs
  injection hs with hs
  injection hs with q1 q2
  subst q1;subst q2
  simp only[A9W]at hg
  obtain⟨hn,hg⟩:=hg
  obtain⟨l0⟩:=as'
  cases has with
  | cons h1 h2 =>
  cases h2
  cases h1
  obtain⟨n1,n2⟩:=fN hn
  obtain⟨r0,k1,k2,k3,k5,k4⟩:=XP hg
  obtain⟨rbp,hrbp⟩:=h.glb 1 _ 1 k1 k3
  have hok:Dr ρ w r0 rbp:=h.obj 1 _ rbp k1 hrbp
  obtain⟨hb,hoff,cs,e,pl,hblk,hsz⟩:=hok.gl 1 k3
  have hcs:cs.size=20:=by rw[hsz,hok.tight k5,k2];rfl
  have htab : Go.Lib.TabIs prog w "internal/strconv.uint64pow10" .u64 Go.Lib.pow10Tab := by
    unfold Go.Lib.TabIs World.var?
    rw[uC,Option.bind_some]
    rw[hb]at hblk
    rw[hblk]
    refine congrArg some ?_
    apply Array.ext_getElem?
    intro k
    rcases A8N k 20 with hk | hk
    · have hp:FE[k]? = some (.int .u64 ((10 ^ k:Nat):Int)):=by
        have:k=0∨k=1∨k=2∨k=3∨k=4∨k=5∨k=6∨k=7∨k=8∨k=9∨k=10∨k=11∨k=12∨k=13∨k=14∨k=15∨k=16∨k=17∨k=18∨k=19:=by omega
        rcases this with rfl | rfl | rfl | rfl | rfl | rfl | rfl | rfl | rfl | rfl | rfl | rfl | rfl | rfl | rfl | rfl | rfl | rfl | rfl | rfl<;>rfl
      obtain⟨v,g1,g2⟩:=hok.cells k _ (by rw[k2];exact hk) (by rw[k4 k hk];exact hp)
      cases g2
      rw[hb,hoff,A8V]at g1
      have g1:cs[k]? = some (.int .u64 ((10 ^ k:Nat):Int)):=by simpa[World.cell?,hblk]using g1
      rw[g1]
      simp[Go.Lib.pow10Tab,hk]
    · rw[Array.getElem?_eq_none (by omega),Array.getElem?_eq_none (by simp[Go.Lib.pow10Tab];exact hk)]
  refine Calls.mono (Any.strconv_Itoa tB n n1 (by omega) w htab) ?_
  rintro e w' ⟨rfl,k,os,rfl⟩
  obtain⟨i1,f1⟩:=h.aheadS k
  obtain⟨i2,f2⟩:=i1.growS os
  exact⟨ρ,.str (by unfold Gt;simp),i2,f1.trans f2⟩
end
def Zw(x:List Nat):List (List Nat)→List (List Nat)
 | []=>[x]
 | y::l=>bif G0 y x then y::Zw x l else x::y::l
def Gj:List (List Nat)→List (List Nat)
 | []=>[]
 | x::l=>Zw x (Gj l)
theorem Uc:∀x y:List Nat,G0 x y=decide (x<y)
  | [],[]=>by simp[G0]
  | [],_::_=>by simp[G0]
  | _::_,[]=>by simp[G0]
  | a::x,b::y=>by
    have ih:=Uc x y
    unfold G0
    rw[A9e,decide_eq_true_eq,List.cons_lt_cons_iff]
    by_cases h1:a<b
    · simp[OK h1,h1]
    · have hb:Nat.blt a b=false:=by
        cases hb:Nat.blt a b with
        | false=>rfl
        | true=>exact absurd (by simpa[A8Y]using hb) h1
      rw[hb]
      by_cases h2:a=b
      · subst h2;simp[ih]
      · rw[Iw h2];simp[h1,h2]
theorem OX(x:List Nat):∀l,(Zw x l).Perm (x::l)
 | []=>.refl _
 | y::l=>by
  unfold Zw
  cases G0 y x with
  | false=>exact .refl _
  | true=>exact((OX x l).cons y).trans (.swap x y l)
theorem HV:∀l,(Gj l).Perm l
 | []=>.refl _
 | x::l=>(OX x _).trans ((HV l).cons x)
theorem PK(x:List Nat):∀l:List (List Nat),l.Pairwise (·≤·)→(Zw x l).Pairwise (·≤·)
 | [],_=>by simp[Zw]
 | y::l,h=>by
  unfold Zw
  have hl:=A9I.1 h
  rw[Uc]
  by_cases hxy:y<x
  ·simp only[hxy,A9Z,cond_true]
   refine A9I.2 ⟨fun z hz=>?_,PK x l hl.2⟩
   rcases A8I.1 ((OX x l).mem_iff.1 hz)with rfl | hz
   ·exact List.le_of_lt hxy
   ·exact hl.1 z hz
  ·simp only[hxy,A9a,cond_false]
   have hxy:x≤y:=List.not_lt.1 hxy
   refine A9I.2 ⟨fun z hz=>?_,h⟩
   rcases A8I.1 hz with rfl | hz
   ·exact hxy
   ·exact List.le_trans hxy (hl.1 z hz)
theorem Nu:∀l,(Gj l).Pairwise (·≤·)
 | []=>.nil
 | x::l=>PK x _ (Nu l)
theorem ah{l m:List (List Nat)}(hp:l.Perm m)(hl:l.Pairwise (·≤·))(hm:m.Pairwise (·≤·)):l=m:=by
  induction l generalizing m with
  | nil=>exact(List.nil_perm.1 hp).symm
  | cons a l ih =>
    cases m with
    | nil=>exact absurd hp.length_eq (by simp)
    | cons b m =>
      have hl':=A9I.1 hl
      have hm':=A9I.1 hm
      have hab:a=b:=by
        have h1:a∈b::m:=hp.mem_iff.1 A8M
        have h2:b∈a::l:=hp.mem_iff.2 A8M
        rcases A8I.1 h1 with e | h1
        · exact e
        · rcases A8I.1           h2 with e | h2
          · exact e.symm
          · exact List.le_antisymm (hl'.1 b h2) (hm'.1 a h1)
      subst hab
      rw[ih hp.cons_inv hl'.2 hm'.2]
def HE(l:List UInt8):List Nat:=l.map fun(x:UInt8)=>x.toNat
theorem pF:∀x y:List UInt8,x≤y↔HE x≤HE y:=by
  have key:∀x y:List UInt8,x<y↔HE x<HE y:=by
    intro x
    induction x with
    | nil=>intro y;cases y<;>simp[HE]
    | cons a x ih =>
      intro y
      cases y with
      | nil=>simp[HE]
      | cons b y =>
        have h1:HE (a::x)=a.toNat::HE x:=rfl
        have h2:HE (b::y)=b.toNat::HE y:=rfl
        rw[h1,h2,List.cons_lt_cons_iff,List.cons_lt_cons_iff,ih y,UInt8.lt_iff_toNat_lt,UInt8.toNat_inj]
  intro x y
  rw[← List.not_lt,← List.not_lt,key]
theorem YZ(ss:List (List UInt8)):Gj (ss.map HE)=(ss.mergeSort fun x y=>decide (x≤y)).map HE:=by
 refine ah ((HV _).trans ((List.mergeSort_perm ss _).symm.map HE)) (Nu _) ?_
 rw[List.pairwise_map]
 have:=List.pairwise_mergeSort (le:=fun(x y:List UInt8)=>decide (x≤y)) (by
  intro a b c h1 h2
  simp only[decide_eq_true_eq]at h1 h2 ⊢
  exact List.le_trans h1 h2) (by
  intro a b
  simp only[A9X,decide_eq_true_eq]
  exact List.le_total a b) ss
 exact this.imp fun h=>(pF _ _).1 (by simpa using h)
theorem Sd{α:Type} [Inhabited α]{enc:α→Value}{w:World}{b off:Nat}{cells:Array Value}{e:TypeId}{pl:Nat×Nat}(hb:w.heap[b]? = some (.cells cells e pl)){l:List α}(hl:off+l.length≤cells.size):
    w.setRow b (cells.toList.take (off+0)++l.map enc++cells.toList.drop (off+0+(l.map enc).length)).toArray=Go.Sort.putRow enc w b off l.toArray:=by
  have hc:(cells.toList.take (off+0)++l.map enc++cells.toList.drop (off+0+(l.map enc).length)).toArray=Go.Sort.putCells enc off l.toArray cells:=by
    apply Array.ext_getElem?
    intro k
    rw[List.getElem?_toArray]
    unfold Go.Sort.putCells
    rw[Array.getElem?_mapIdx]
    simp only[A8f,A8c,A8n]
    have hts:(cells.toList.take off).length=off:=by simp;omega
    rcases A8N k off with h1 | h1
    · rw[A8d (by omega),A9P h1,Array.getElem?_toList]
      cases cells[k]? with
      | none=>rfl
      | some v=>simp only[A8v];rw[if_neg (by omega)]
    · rw [A8g                        (by omega), hts]
      rcases A8N k (off+l.length)with h2 | h2
      · rw[A8d (by simp;omega),A8j,A8O (by omega:k - off<l.length),Array.getElem?_eq_getElem (by omega:k<cells.size)]
        simp only[A8v]
        rw[if_pos ⟨h1,by simpa using h2⟩]
        simp[show k - off<l.length from by omega]
      · rw[A8g (by simp;omega),A8c,A8y,show off+l.length+(k - off - l.length)=k from by omega,Array.getElem?_toList]
        cases cells[k]? with
        | none=>rfl
        | some v=>simp only[A8v];rw[if_neg (by simp;omega)]
  rw[hc]
  unfold World.setRow Go.Sort.putRow Go.Sort.mapBlock
  congr 1
  apply Array.ext_getElem?
  intro k
  simp only[Array.getElem?_modify]
  by_cases hk:b=k
  · subst hk
    simp only[if_true,hb,A8v,Go.Sort.onCells]
  · simp[hk]
def KQ(s:CO):List AV→Option (AV×CO)
 | [.slice none 0 _]=>some (.tuple [],s)
 | [.slice (some (i,o)) n _]=>(Di s i o n).bind fun cs=>(Im cs).bind fun xs=>CU (Nat.blt 0 n && Nat.ble n 1000000) (JI ((Gj xs).map AV.str) fun ys=>(EC s i o ys).bind fun s'=>some (.tuple [],s'))
 | _=>none
section
variable{ρ:DV}{s s1:CO}{w w1:World}
theorem Yi{ρ:DV}:∀ {l:List (List UInt8)},Cb ρ ((l.map HE).map AV.str) (l.map encStr)
 | []=>.nil
 | x::l=>.cons (.str (by simp[HE])) Yi
theorem Ua(h:DU prog ρ s w){ys:List AV}{as':Array Value}{v:AV}(hs:KQ s ys=some (v,s1))(has:Cb ρ ys as'.toList):CallsIn Fence.wide 0 prog 85 as' w (Ey prog ρ s w v s1):=by
  refine callsIn_wide.2 ?_
  unfold KQ at hs
  split at hs<;>first | (cases hs;done) | skip
  · injection hs with hs
    injection hs with q1 q2
    subst q1;subst q2
    obtain⟨l0⟩:=as'
    cases has with
    | cons h1 h2 =>
    cases h2
    cases h1 with
    | sliceNil =>
      refine Calls.mono (AnyM.slices_Sort_string_none Xe none 0 w) ?_
      rintro e w' ⟨rfl,rfl⟩
      exact⟨ρ,.tuple .nil,h,Fr.refl _ _ _⟩
  · rename_i i o n c
    simp only[A8G]at hs
    obtain⟨cs,hl,xs,hx,hs⟩:=hs
    obtain⟨hg,hs⟩:=CM hs
    simp only[A9W,A8Q,A8Y]at hg
    obtain⟨hn0,hn⟩:=hg
    rw[Ez]at hs
    simp only[A8G]at hs
    obtain⟨s2,hst,hs⟩:=hs
    injection hs with hs
    injection hs with q1 q2
    subst q1;subst q2
    obtain⟨l0⟩:=as'
    cases has with
    | cons h1 h2 =>
    cases h2
    have hrow:∃r,rowAt s i=some r:=by
      unfold Di at hl
      cases hrw:rowAt s i with
      | none=>rw[hrw]at hl;cases hl
      | some r=>exact⟨r,rfl⟩
    obtain⟨r,hrow⟩:=hrow
    have main:∀ {rb:RB} {cap:Nat},ρ i=some rb→Calls prog 85 #[.slice (some ⟨rb.b,rb.off+o,none⟩) n cap] w (Ey prog ρ s w (.tuple []) s2):=by
      intro rb cap hr
      obtain⟨l',hv,hl2,_⟩:=FR h hr hl
      obtain⟨bs,rfl,rfl⟩:=Lo hx hv
      have hlen:bs.length=n:=by rw[A8c]at hl2;exact hl2
      let us:List (List UInt8):=bs.map fun b=>b.data.toList
      have hus:(bs.map fun b=>b.data.toList.map fun(c:UInt8)=>c.toNat)=us.map HE:=by simp[us,HE]
      have hok:Dr ρ w r rb:=h.obj i _ rb (DW hrow) hr
      obtain⟨g1,g2⟩:=HP hrow hl
      have hown:FL r.mode=true:=by
        cases bs with
        | nil=>simp at hlen;omega
        | cons b bs =>
          have hne:∃x l,(Gj ((b::bs).map fun b=>b.data.toList.map fun(c:UInt8)=>c.toNat)).map AV.str=x::l:=by
            have:=(HV ((b::bs).map fun b=>b.data.toList.map fun(c:UInt8)=>c.toNat)).length_eq
            cases hq:Gj ((b::bs).map fun b=>b.data.toList.map fun(c:UInt8)=>c.toNat)with
            | nil=>rw[hq]at this;simp at this
            | cons x l=>exact⟨_,_,rfl⟩
          obtain⟨x,l,hq⟩:=hne
          rw[hq]at hst
          unfold EC at hst
          rw[hrow,Option.bind_some]at hst
          have:=(CM hst).1
          simp only[A9W]at this
          exact this.1.1
      obtain⟨cells,hblk,hsz⟩:=hok.own (fun e=>by rw[e]at hown;cases hown)
      have hle:=hok.le
      have hcell:∀j,j<n→cells[rb.off+o+j]? = some (encStr (us.toArray[j]!)):=by
        intro j hj
        have hjb:j<bs.length:=by omega
        obtain⟨u,hu1,hu2⟩:=hv.backAt (k:=j) (v':=.string bs[j]) (by rw[A8j,A8O hjb];rfl)
        have g3:=CT.take_get g2 j hj
        have hl1:FQ s i (o+j)=some u:=by
          unfold FQ
          rw[hrow,Option.bind_some,g3,hu1]
          have:Nat.blt (o+j) r.n=true:=by rw[A8Y];omega
          rw[this];rfl
        obtain⟨v',k1,k2⟩:=Hj h hr hl1
        have e5:v'=.string bs[j]:=by
          obtain⟨su,rfl⟩:=Ox hx u (A8a hu1)
          cases hu2 with
          | str e1 =>
            cases k1 with
            | str e2=>rw[TM (e2.trans e1.symm)]
        subst e5
        have hju:j<us.length:=by simp[us];exact hjb
        simp only[World.cell?,hblk]at k2
        have k3:cells[rb.off+(o+j)]? = some (.string bs[j]):=by simpa using k2
        rw[show rb.off+o+j=rb.off+(o+j)from by omega,k3]
        simp[us,hjb,encStr]
      have hH:Go.Sort.Holds encStr w rb.b (rb.off+o) us.toArray:=by
        intro j hj
        have hjn:j<n:=by simpa[us,hlen]using hj
        refine⟨?_,?_⟩
        · simp only [World.cell?, hblk]
          simpa using hcell j hjn
        · simp[World.frozen?,hblk]
      have hul:us.length=n:=by simp[us,hlen]
      have hcall:=AnyM.slices_Sort_string Xe rb.b (rb.off+o) cap us w hH (h.lt i rb hr) (by omega)
      rw[hul]at hcall
      refine Calls.mono hcall ?_
      rintro e w' ⟨rfl,k,os,rfl⟩
      obtain⟨i1,f1⟩:=h.aheadS k
      have hst':EC s i o (((us.mergeSort fun x y=>decide (x≤y)).map HE).map AV.str)=some s2:=by
        rw[← YZ,← hus];exact hst
      obtain⟨w3,hrun,i2,f2⟩:=IP i1 hr hst' Yi
      have hblk1:(Go.Sort.ahead w k).heap[rb.b]? = some (.cells cells r.elem (0,0)):=hblk
      have hml:(us.mergeSort fun x y=>decide (x≤y)).length=n:=by rw[List.length_mergeSort,hul]
      have hfit:rb.off+o+0+((us.mergeSort fun x y=>decide (x≤y)).map encStr).length≤cells.size:=by rw[A8c,hml];omega
      have hrun2:=run_storeCells_at prog rb.b (rb.off+o) r.elem ((us.mergeSort fun x y=>decide (x≤y)).map encStr) 0 cells (Go.Sort.ahead w k) hblk1 hfit (by
        intro v hv
        obtain⟨x,_,rfl⟩:=List.mem_map.1 hv
        rfl)
      have hw3:w3=Go.Sort.putRow encStr (Go.Sort.ahead w k) rb.b (rb.off+o) (us.mergeSort fun x y=>decide (x≤y)).toArray:=by
        have:=hrun.symm.trans hrun2
        injection this with _ this
        rw[this]
        exact Sd hblk1 (by simp;omega)
      rw[← hw3]
      obtain⟨i3,f3⟩:=i2.growS os
      exact⟨ρ,.tuple .nil,i3,(f1.trans f2).trans f3⟩
    cases h1 with
    | slice hr hle=>exact main hr
    | sliceOpen hr h0 hle hN1 hN2=>exact main hr
    | sliceEnd hr h0 hN1 hN2=>omega
def Kd:List AV→Option (List Int)
 | []=>some []
 | .int .i64 x::l=>(Kd l).bind fun r=>some (x::r)
 | _=>none
theorem Tl:∀ {l:List AV}{r:List Int},Kd l=some r→∀v∈l,∃x,v=.int .i64 x
 | [],_,_,v,hv=>by cases hv
 | a::l,r,h,v,hv=>by
  unfold Kd at h
  split at h<;>first | (cases h;done) | skip
  ·rename_i hq;cases hq
  ·rename_i x l2 hq
   injection hq with q1 q2
   subst q1;subst q2
   simp only[A8G]at h
   obtain⟨r',h1,_⟩:=h
   rcases A8I.1 hv with rfl | hv
   ·exact⟨_,rfl⟩
   ·exact Tl h1 v hv
theorem Tp{ρ:DV}:∀ {l:List AV}{us:List Int}{l':List Value},Kd l=some us→Cb ρ l l'→l'=us.map (Value.int .i64)
  | [],us,l',h,hr=>by cases hr;injection h with h;subst h;rfl
  | v::l,us,l',h,hr=>by
    cases hr with
    | cons hv hs =>
      unfold Kd at h
      split at h<;>first | (cases h;done) | skip
      · rename_i hq;cases hq
      · rename_i x l2 hq
        injection hq with q1 q2
        subst q1;subst q2
        simp only[A8G]at h
        obtain⟨r,h1,h2⟩:=h
        injection h2 with h2
        subst h2
        have:=Tp h1 hs
        subst this
        cases hv
        rfl
theorem XU{ρ:DV}:∀ {l:List Int},Cb ρ (l.map Z3) (l.map (Value.int .i64))
 | []=>.nil
 | x::l=>.cons (.int _ _) XU
def KP(s:CO):List AV→Option (AV×CO)
 | [.slice none 0 _]=>some (.tuple [],s)
 | [.slice (some (i,o)) n _]=>(Di s i o n).bind fun cs=>(Kd cs).bind fun xs=>CU (Nat.blt 0 n && Nat.ble n 1000000) (JI ((DS xs).map Z3) fun ys=>(EC s i o ys).bind fun s'=>some (.tuple [],s'))
 | _=>none
theorem UZ(h:DU prog ρ s w){ys:List AV}{as':Array Value}{v:AV}(hs:KP s ys=some (v,s1))(has:Cb ρ ys as'.toList):CallsIn Fence.wide 0 prog 73 as' w (Ey prog ρ s w v s1):=by
  refine callsIn_wide.2 ?_
  unfold KP at hs
  split at hs<;>first | (cases hs;done) | skip
  · injection hs with hs
    injection hs with q1 q2
    subst q1;subst q2
    obtain⟨l0⟩:=as'
    cases has with
    | cons h1 h2 =>
    cases h2
    cases h1 with
    | sliceNil =>
      refine Calls.mono (AnyM.slices_Sort_int_none NV none 0 w) ?_
      rintro e w' ⟨rfl,rfl⟩
      exact⟨ρ,.tuple .nil,h,Fr.refl _ _ _⟩
  · rename_i i o n c
    simp only[A8G]at hs
    obtain⟨cs,hl,us,hx,hs⟩:=hs
    obtain⟨hg,hs⟩:=CM hs
    simp only[A9W,A8Q,A8Y]at hg
    obtain⟨hn0,hn⟩:=hg
    rw[Ez]at hs
    simp only[A8G]at hs
    obtain⟨s2,hst,hs⟩:=hs
    injection hs with hs
    injection hs with q1 q2
    subst q1;subst q2
    obtain⟨l0⟩:=as'
    cases has with
    | cons h1 h2 =>
    cases h2
    have hrow:∃r,rowAt s i=some r:=by
      unfold Di at hl
      cases hrw:rowAt s i with
      | none=>rw[hrw]at hl;cases hl
      | some r=>exact⟨r,rfl⟩
    obtain⟨r,hrow⟩:=hrow
    have main:∀ {rb:RB} {cap:Nat},ρ i=some rb→Calls prog 73 #[.slice (some ⟨rb.b,rb.off+o,none⟩) n cap] w (Ey prog ρ s w (.tuple []) s2):=by
      intro rb cap hr
      obtain⟨l',hv,hl2,_⟩:=FR h hr hl
      obtain rfl:=Tp hx hv
      have hlen:us.length=n:=by rw[A8c]at hl2;exact hl2
      have hok:Dr ρ w r rb:=h.obj i _ rb (DW hrow) hr
      obtain⟨g1,g2⟩:=HP hrow hl
      have hown:FL r.mode=true:=by
        cases us with
        | nil=>simp at hlen;omega
        | cons b us =>
          have hne:∃x l,(DS (b::us)).map Z3=x::l:=by
            have:=(EM (b::us)).length_eq
            cases hq:DS (b::us)with
            | nil=>rw[hq]at this;simp at this
            | cons x l=>exact⟨_,_,rfl⟩
          obtain⟨x,l,hq⟩:=hne
          rw[hq]at hst
          unfold EC at hst
          rw[hrow,Option.bind_some]at hst
          have:=(CM hst).1
          simp only[A9W]at this
          exact this.1.1
      obtain⟨cells,hblk,hsz⟩:=hok.own (fun e=>by rw[e]at hown;cases hown)
      have hle:=hok.le
      have hcell:∀j,j<n→cells[rb.off+o+j]? = some ((Value.int .i64) (us.toArray[j]!)):=by
        intro j hj
        have hjb:j<us.length:=by omega
        obtain⟨u,hu1,hu2⟩:=hv.backAt (k:=j) (v':=.int .i64 us[j]) (by rw[A8j,A8O hjb];rfl)
        have g3:=CT.take_get g2 j hj
        have hl1:FQ s i (o+j)=some u:=by
          unfold FQ
          rw[hrow,Option.bind_some,g3,hu1]
          have:Nat.blt (o+j) r.n=true:=by rw[A8Y];omega
          rw[this];rfl
        obtain⟨v',k1,k2⟩:=Hj h hr hl1
        have e5:v'=.int .i64 us[j]:=by
          obtain⟨su,rfl⟩:=Tl hx u (A8a hu1)
          cases hu2
          cases k1
          rfl
        subst e5
        simp only[World.cell?,hblk]at k2
        have k3:cells[rb.off+(o+j)]? = some (.int .i64 us[j]):=by simpa using k2
        rw[show rb.off+o+j=rb.off+(o+j)from by omega,k3]
        simp[hjb]
      have hH:Go.Sort.Holds (Value.int .i64) w rb.b (rb.off+o) us.toArray:=by
        intro j hj
        have hjn:j<n:=by simpa[hlen]using hj
        refine⟨?_,?_⟩
        · simp only [World.cell?, hblk]
          simpa using hcell j hjn
        · simp[World.frozen?,hblk]
      have hul:us.length=n:=hlen
      have hcall:=AnyM.slices_Sort_int NV rb.b (rb.off+o) cap us w hH (h.lt i rb hr) (by omega)
      rw[hul]at hcall
      refine Calls.mono hcall ?_
      rintro e w' ⟨rfl,k,os,rfl⟩
      obtain⟨i1,f1⟩:=h.aheadS k
      have hst':EC s i o ((us.mergeSort fun x y=>decide (x≤y)).map Z3)=some s2:=by
        rw[PN (List.Perm.refl us)];exact hst
      obtain⟨w3,hrun,i2,f2⟩:=IP i1 hr hst' XU
      have hblk1:(Go.Sort.ahead w k).heap[rb.b]? = some (.cells cells r.elem (0,0)):=hblk
      have hml:(us.mergeSort fun x y=>decide (x≤y)).length=n:=by rw[List.length_mergeSort,hul]
      have hfit:rb.off+o+0+((us.mergeSort fun x y=>decide (x≤y)).map (Value.int .i64)).length≤cells.size:=by rw[A8c,hml];omega
      have hrun2:=run_storeCells_at prog rb.b (rb.off+o) r.elem ((us.mergeSort fun x y=>decide (x≤y)).map (Value.int .i64)) 0 cells (Go.Sort.ahead w k) hblk1 hfit (by
        intro v hv
        obtain⟨x,_,rfl⟩:=List.mem_map.1 hv
        rfl)
      have hw3:w3=Go.Sort.putRow (Value.int .i64) (Go.Sort.ahead w k) rb.b (rb.off+o) (us.mergeSort fun x y=>decide (x≤y)).toArray:=by
        have:=hrun.symm.trans hrun2
        injection this with _ this
        rw[this]
        exact Sd hblk1 (by simp;omega)
      rw[← hw3]
      obtain⟨i3,f3⟩:=i2.growS os
      exact⟨ρ,.tuple .nil,i3,(f1.trans f2).trans f3⟩
    cases h1 with
    | slice hr hle=>exact main hr
    | sliceOpen hr h0 hle hN1 hN2=>exact main hr
    | sliceEnd hr h0 hN1 hN2=>omega
end
end
end Go.Proofs.YtoaaclpjkelofaaGreatDoor.Am
set_option linter.all false
set_option maxHeartbeats 1000000
set_option maxRecDepth 12000
namespace Go.Proofs.YtoaaclpjkelofaaGreatDoor.Am
open Go Go.Proofs
noncomputable section
open Tryz
def dz(l:List Nat):List AV:=l.map fun b=>.int .u8 (.ofNat b)
theorem uJ(l:List Nat):C3 (dz l)=true:=by
 induction l with
 | nil=>rfl
 | cons a l ih=>exact ih
theorem WK(l:List Nat):(dz l).length=l.length:=A8c ..
theorem TN:∀ {l:List Nat},(∀x∈l,x<256)→EP.bytesOf (dz l)=some l
 | [],_=>rfl
 | x::l,h=>by
  have h1:Nat.blt x 256=true:=OK (h x A8M)
  show CU (Nat.blt x 256) ((EP.bytesOf (dz l)).bind fun r=>some (x::r))=_
  rw[h1,TN fun y hy=>h y (A8J _ hy)]
  rfl
theorem bJ:FU prog 5 1=true:=by kernel_rfl
theorem A3i:EE prog 9=true:=by kernel_rfl
def HY(s:CO)(v:AV):Prop:=∀i o n c r,v=.slice (some (i,o)) n c→s.heap.get i=some (.row r)→r.bytes=true
theorem HD.base{s:CO}{v:AV}{n:Nat}{cs:List AV}{O:List Nat}(h:HD 5 1 s v n cs O)(hb:HY s v){m:Nat}{add:List AV}(h0:0<m){a:Option (Nat×Nat)}{cap:Option Nat}(hv:v=.slice a n cap){v':AV}{s':CO}(happ:appTo prog s 5 1 a n cap (m,add)=some (v',s')):HY s' v':=by
  rcases h with⟨rfl,rfl,rfl,_⟩ | ⟨i,p,rfl,hg,_⟩
  · injection hv with e1 e2 e3
    subst e1;subst e3
    simp only[appTo,Iw (show m≠0 by omega),cond_false,FB,bJ,CU,cond_true,A9b,Prod.mk.injEq]at happ
    obtain⟨rfl,rfl⟩:=happ
    intro i o n c r e hr
    injection e with e
    injection e with e
    injection e with e _
    subst e
    rw[DH,if_pos rfl]at hr
    injection hr with hr
    injection hr with hr
    subst hr;rfl
  · injection hv with e1 e2 e3
    subst e1;subst e3
    rcases hg.ex with⟨h4,_⟩ | ⟨_,_,_,_,r,h7,h8,h9,h10,h11,h12,h13⟩
    · cases h4
    · have hbr := hb i 0 n none r rfl h7
      have hrn:r.n=n:=by rw[h8.1,hg.len];omega
      have hrow:rowAt s i=some r:=by rw[Hc,h7];rfl
      have hld:∃old,Di s i 0 (n * 1)=some old:=⟨_,by rw[Et,h7];exact H6 h8 (by rw[hg.len];omega)⟩
      obtain⟨old,hld⟩:=hld
      have hn1:Nat.ble (0+(n+m) * 1) r.n=false:=Pu (by omega)
      have hn2:Nat.beq (0+n * 1) r.n=true:=JF (by omega)
      have hn3:Nat.beq 1 r.sz=true:=JF h11.symm
      have hn4:Nat.beq r.elem 5=true:=JF h13
      simp only[appTo,hrow,Option.bind_some,M1,hn3,hn1,cond_false,hld,h9,cond_true,Hi,h10,FL,hn4,bJ,CU,hn2,Bool.and_self,A9b,Prod.mk.injEq]at happ
      obtain⟨rfl,rfl⟩:=happ
      intro j o n' c r' e hr
      injection e with e
      injection e with e
      injection e with e _
      have hnx:(Fy s i r true).next=s.next:=by
        unfold Fy Dm
        cases r.par with
        | none=>rfl
        | some q=>cases hq:Nat.beq q i<;>simp only[hq,cond_true,cond_false]<;>rfl
      rw[← e,← hnx,DH,if_pos rfl]at hr
      injection hr with hr
      injection hr with hr
      subst hr
      show(r.bytes && Nat.beq 0 0)=true
      rw[hbr];rfl
theorem HD.appendS{s:CO}{v:AV}{n:Nat}{cs:List AV}{O:List Nat}(h:HD 5 1 s v n cs O){x:List Nat}(h0:0<x.length)(h1:n+x.length≤1000000000):
    ∃v' s' O',DE prog s [22,9] [v,.str x]=some (v',s')∧HD 5 1 s' v' (n+x.length) (cs++dz x) O'∧s'.next=s.next+1∧(∀j,j<s.next→j ∉ O→s'.heap.get j=s.heap.get j)∧(∀j∈O',j∈O∨s.next≤j)∧EQ v'=some s.next∧(HY s v→HY s' v'):=by
  have ha:(dz x).length=x.length * 1:=by rw[WK];omega
  have happA:∀a cap,DE prog s [22,9] [.slice a n cap,.str x]=appTo prog s 5 1 a n cap (x.length,dz x):=fun a cap=>by
    have h2:Nat.ble ((n+x.length) * 1) 1099511627776=true:=EA (by omega)
    have h3:Nat.ble (n+x.length) 1099511627776=true:=EA (by omega)
    have h4:FT prog s 5 1 (.str x)=some (x.length,dz x):=rfl
    simp only[DE,underlying22,A5z,by5,Option.bind_some,h4,A3i,uJ,h2,h3,CU]
    rfl
  have key:∀ (i:Nat) (p:Option Nat),Jr 5 0 s.next s v n 1 cs i p→(∀j,j<s.next→j ∉ O→j≠i∧p≠some j)→(∀j,j=i∨p=some j→j∈O∨s.next≤j) →
      ∃v' s' O',DE prog s [22,9] [v,.str x]=some (v',s')∧HD 5 1 s' v' (n+x.length) (cs++dz x) O'∧s'.next=s.next+1∧(∀j,j<s.next→j ∉ O→s'.heap.get j=s.heap.get j)∧(∀j∈O',j∈O∨s.next≤j)∧EQ v'=some s.next∧(HY s v→HY s' v'):=by
    intro i p hg hi hO
    obtain⟨a,cap,v',s',rfl,happ,i',p',hg',hap,_,rfl,hp',hn',_⟩:=hg.appTo (P:=prog) (A8H _) (A8T _) bJ (by omega) ha h0
    have hv':v'=.slice (some (s.next,0)) (n+x.length) none:=by
      rcases hg'.ex with⟨_,h0'⟩ | ⟨h1',_⟩
      · omega
      · exact h1'
    refine⟨v',s',s.next::p'.toList,by rw[happA];exact happ,.inr ⟨s.next,p',hv',hg',rfl⟩,hn',fun j hj hjO=>?_,fun j hj=>?_,by rw[hv'];rfl,fun hbr=>h.base hbr h0 rfl happ⟩
    · exact hap.2 j hj (hi j hj hjO).1 (hi j hj hjO).2
    · rcases A8I.1           hj with rfl | hj
      · exact .inr (A8H _)
      · rcases hp' with rfl | rfl
        · cases hj
        · simp at hj;subst hj;exact hO _ (.inl rfl)
  rcases h with⟨rfl,rfl,rfl,rfl⟩ | ⟨i,p,rfl,hg,rfl⟩
  · exact key s.next none (Jr.zero _ _ _ _ _ _ _) (fun j hj _=>⟨by omega,by simp⟩) (fun j hj=>by rcases hj with rfl | hj;exact .inr (A8H _);cases hj)
  · refine key i p hg (fun j hj hjO => ⟨fun e => hjO (by simp [e]), fun e => hjO (by simp [e])⟩) (fun j hj => ?_)
    rcases hj with rfl | rfl<;>simp
theorem HY.frame{s s':CO}{v:AV}(h:HY s v)(k:∀j,EQ v=some j→s'.heap.get j=s.heap.get j):HY s' v:=by
 intro i o n c r e hr
 subst e
 rw[k i rfl]at hr
 exact h i o n c r rfl hr
structure eE(s:CO)(i:Nat)(x:List Nat)(O:List Nat):Prop where
 ex:∃pv v,s.heap.get i=some (R 108 0 false [pv,v])∧(pv=.ptr none∨pv=.ptr (some (i,0)))∧HD 5 1 s v x.length (dz x) O∧HY s v
 lt:i<s.next
 nO:i ∉ O
theorem sD{s:CO}{i:Nat}{a b:AV}(h:s.heap.get i=some (R 108 0 false [a,b])):EP prog s 106 164 (.ptr (some (i,0)))=some (.ptr (some (i,0)))∧EP prog s 164 106 (.ptr (some (i,0)))=some (.ptr (some (i,0))):=by
  have hr:rowAt s i=some { elem:=108,sz:=0,n:=2,c:=Vw [a,b],spare:=false,mode:=.own,par:=none,bytes:=true }:=by rw[Hc,h];rfl
  constructor
  · show EP.seenPtr    prog s 108 (.ptr (some (i, 0))) = _
    simp only[EP.seenPtr,hr,A0q,Option.bind_some]
    rfl
  · show EP.seenPtr    prog s 108 (.ptr (some (i, 0))) = _
    simp only[EP.seenPtr,hr,A0q,Option.bind_some]
    rfl
theorem A3T(i o:Nat):Ch prog .eql 106 (.ptr (some (i,o))) (.ptr none)=some (.bool false):=by kernel_rfl
theorem tU:Ch prog .eql 106 (.ptr none) (.ptr none)=some (.bool true):=by kernel_rfl
theorem tV{s:CO}{i:Nat}{a b:AV}(h:s.heap.get i=some (R 108 0 false [a,b])):KL prog s true 106 (.ptr (some (i,0))) (.ptr (some (i,0)))=some (.bool false):=by
 have hr:KJ s i=true:=by unfold KJ;rw[Hc,h];rfl
 have hp:Z1 prog 106=true:=by kernel_rfl
 have hb:Nat.beq i i=true:=JF rfl
 simp only[KL,hr,hp,hb,CU]
 rfl
section
variable{E:Dw}(hE:TG E){s:CO}{i:Nat}{x:List Nat}{O:List Nat}(h:eE s i x O){K:AV→CO→Prop}
include hE h
theorem aY(hK:∀s',eE s' i x O→s'.next=s.next→(∀j,j≠i→s'.heap.get j=s.heap.get j)→K (.tuple []) s'):WF E 95 [.ptr (some (i,0))] K s:=by
  obtain⟨pv,v,h1,h2,h3,h3b⟩:=h.ex
  have hlt:=h.lt
  obtain⟨hc1,hc2⟩:=sD h1
  have hps:=tV h1
  refine hE.go A2T (by decide) rfl ?_
  have hs0:s=ext s []:=(Ca s).symm
  rcases h2 with rfl | rfl
  · have hcf:(AV.ptr (some (i,0))).cells=[.ptr (some (i,0))]:=rfl
    rw[hs0]at hc1 hc2 ⊢
    obtain⟨a,c,rfl,_⟩:=h3.slice
    simp only[A6Q,mP,zj,dL,uX,A5p,h1,hlt,hc1,hc2,tU,Vs,A8f,Qa,Qb,QS,Wg,Nat.reduceAdd,Nat.reduceLeDiff]
    refine hK _ ⟨⟨_,_,by rw[Ca,Co],.inr rfl,?_,?_⟩,by rw[Ca];exact hlt,h.nO⟩ (by rw[Ca];rfl) (fun j hj=>by rw[Ca,CS _ hj])
    · refine h3.frame (by rw [Ca];      exact A8H         _) fun j hj => ?_
      rw[Ca,CS _ (fun e=>h.nO (by rw[← e];exact hj))]
    · refine h3b.frame fun j hj => ?_
      rw[Ca,CS _ (fun e=>h.nO (by rw[← e];exact h3.slotO hj))]
  · rw[hs0]at hps ⊢
    simp only[A6Q,mP,zk,dL,uX,h1,hlt,hps,A3T,A8f,Qa,Qb,QS,Wg]
    rw[Ca]
    exact hK s h rfl fun _ _=>rfl
theorem aZ{y:List Nat}(h0:0<y.length)(hl:x.length+y.length≤1000000000)(hK:∀s' O',eE s' i (x++y) O'→s.next≤s'.next→(∀j,j<s.next→j≠i→j ∉ O→s'.heap.get j=s.heap.get j)→(∀j∈O',j∈O∨s.next≤j)→K (.tuple [iv (y.length:Int),.nilIface]) s'):
  WF E 58 [.ptr (some (i,0)),.str y] K s:=by
 refine hE.go A1x (by decide) rfl ?_
 simp only[A7U,xn,xp,Qa,Qb,QS]
 refine aY hE h fun s1 g1 g2 g3=>?_
 obtain⟨pv,v,h1,h2,h3,h3b⟩:=g1.ex
 obtain⟨v',s2,O',happ,hb2,hn2,hf2,hO2,hsl,hbs⟩:=h3.appendS h0 hl
 have hbs:=hbs h3b
 obtain⟨a,c,hv',_⟩:=hb2.slice
 subst hv'
 have hlt:=g1.lt
 have hi2:s2.heap.get i=some (R 108 0 false [pv,v]):=by rw[hf2 i hlt g1.nO];exact h1
 have hs1:s1=ext s1 []:=(Ca s1).symm
 have hs2:s2=ext s2 []:=(Ca s2).symm
 have hlt2:i<s2.next:=by omega
 rw[hs1]at happ ⊢
 rw[hs2]at happ
 have hlen:D9 prog (ext (setObj s2 i (R 108 0 false [pv,.slice a (x.length+y.length) c])) []) 9 (.str y)=some (iv (y.length:Int)):=by
  show(match prog.underlying 9 with | some .string=>some (AV.int .i64 (.ofNat y.length)) | _=>none)=_
  rw[underlying9];rfl
 simp only[xr,xv,dM,A4C,A6c,h1,hlt,hlt2,hi2,happ,hlen,Qb,QS,Wg,Nat.reduceAdd]
 have hiO:i ∉ O':=fun hm=>(hO2 i hm).elim g1.nO (fun hl=>by omega)
 refine hK _ O' ⟨⟨pv,_,by rw[Ca,Co],h2,?_,?_⟩,by rw[Ca];exact hlt2,hiO⟩ (by rw[Ca,Cp];omega) (fun j hj hji hjO=>?_) (fun j hj=>(hO2 j hj).imp id (fun hl=>by omega))
 ·rw[Ca]
  have:=hb2.frame (s':=setObj s2 i (R 108 0 false [pv,.slice a (x.length+y.length) c])) (A8H _) fun j hj=>CS _ (fun e=>hiO (e▸hj))
  rw[A8X]
  have hu:dz (x++y)=dz x++dz y:=A8r
  rw[hu]
  exact this
 ·rw[Ca]
  exact hbs.frame fun j hj=>CS _ (fun e=>hiO (e▸hb2.slotO hj))
 ·rw[Ca,CS _ hji,hf2 j (by omega) hjO,g3 j hji]
theorem YO(hx0:0<x.length)(hx:∀b∈x,b<256)(hl:x.length≤1000000000)(hK:∀s',s.next≤s'.next→(∀j,j ∉ O→s'.heap.get j=s.heap.get j)→K (.str x) s'):WF E 60 [.ptr (some (i,0))] K s:=by
  obtain⟨pv,v,h1,h2,h3,h3b⟩:=h.ex
  have hlt:=h.lt
  refine hE.go A1y (by decide) rfl ?_
  have hs0:s=ext s []:=(Ca s).symm
  rcases h3 with⟨rfl,hx1,_,_⟩ | ⟨j,p,rfl,hg,rfl⟩
  · omega
  · rcases hg.ex with ⟨h4, _⟩ | ⟨_, hxx, h5, h6, r, h7, h8, h9, h10, h11, h12⟩
    · cases h4
    · have hbr := h3b j 0 _ none r rfl h7
      have hlj:j<s.next:=h5
      have hrow:rowAt s j=some r:=by rw[Hc,h7];rfl
      have hen:Nat.beq r.elem 5=true:=JF (h12.2)
      have hld:Di s j 0 x.length=some (dz x):=by
        rw[Et,h7,H6 h8 (by rw[WK];omega),A8p,A8m (by rw[WK];exact A8H _)]
      have hle:Nat.ble x.length 1099511627776=true:=EA (by omega)
      · obtain⟨m,hm⟩:∃m,x.length=m+1:=⟨x.length - 1,by omega⟩
        have hus:Uh prog s [144,3] [.ptr (some (j,0)),iv (x.length:Int)]=some (.str x,setObj (Dm s j r) j (VI r)):=by
          have e1:Uh prog s [144,3] [.ptr (some (j,0)),iv (x.length:Int)]=QA prog s 144 x.length (some (j,0)):=by rw[hm];rfl
          rw[e1]
          simp only[QA,underlying144,hrow,Option.bind_some,h10,FL,hbr,hen,hle,CU,A5z,hld,TN hx]
          rfl
        have hdat:W9 (.slice (some (j,0)) x.length none)=some (.ptr (some (j,0))):=by rw[hm];rfl
        have hlen:D9 prog s 22 (.slice (some (j,0)) x.length none)=some (iv (x.length:Int)):=DQ underlying22
        have hs0:s=ext s []:=(Ca s).symm
        rw[hs0]at hus hlen ⊢
        simp only[A7V,xw,xx,dM,A4C,h1,hlt,hlen,hdat,hus,Qa,Qb,QS,Wg]
        rw[Ca]
        refine hK _ ?_ fun q hq=>?_
        · unfold Dm
          split
          · exact A8H _
          · rename_i p' _;cases Nat.beq p' j<;>exact A8H _
        · have hqj:q≠j:=fun e=>hq (by rw[e];exact A8M)
          rw[CS _ hqj]
          unfold Dm
          split
          · rfl
          · rename_i p' hp'
            cases hb:Nat.beq p' j with
            | true=>rfl
            | false =>
              have hqp:q≠p':=fun e=>hq (by rw[e];rw[h12.1]at hp';rw[hp'];simp)
              show(Eo s p').heap.get q=_
              rw[Dq,if_neg hqp]
end
end
end Go.Proofs.YtoaaclpjkelofaaGreatDoor.Am
set_option linter.all false
namespace Go.Proofs.YtoaaclpjkelofaaGreatDoor.Am
open Go Go.Proofs
noncomputable section
open Tryz
theorem Xk{o:Option Cg}{q n:Nat}{cs:List AV}(h:EV o q n=some cs){k:Nat}(hk:k<n):DY o (q+k)=cs[k]? := by
 unfold EV at h
 simp only[A8G]at h
 obtain⟨r,h1,h2⟩:=h
 obtain⟨h3,h4⟩:=CM h2
 have h3:q+n≤r.n:=by simpa[A8Q]using h3
 unfold DY
 rw[h1,Option.bind_some,OK (show q+k<r.n by omega)]
 exact CT.take_get h4 k hk
def Dv(l:List Int):List AV:=l.map iv
theorem Vd(l:List Int):C3 (Dv l)=true:=by
 induction l with
 | nil=>rfl
 | cons a l ih=>exact ih
theorem FD(l:List Int):(Dv l).length=l.length:=A8c ..
theorem dT{l:List Int}{k:Nat}{x:Int}(h:l[k]? = some x):(Dv l)[k]? = some (iv x):=by rw[Dv,A8j,h];rfl
def Cl(s:CO)(v:AV)(l:List Int):Prop:=
 (l=[]∧v=.slice none 0 (some 0))∨∃j q cap,v=.slice (some (j,q)) l.length cap∧j<s.next∧EV (s.heap.get j) q l.length=some (Dv l)
theorem Cl.old{s s':CO}{v:AV}{l:List Int}(h:Cl s v l)(k:DL s.next s s'):Cl s' v l:=by
 rcases h with h | ⟨j,q,cap,h2,h3,h4⟩
 ·exact .inl h
 ·exact .inr ⟨j,q,cap,h2,A8L h3 k.1,by rw[k.2 j h3];exact h4⟩
theorem Cl.at{s:CO}{l:List Int}{v:AV}(h:Cl s v l){k:Nat}{x:Int}(hk:l[k]? = some x):∃j q cap,v=.slice (some (j,q)) l.length cap∧j<s.next∧DY (s.heap.get j) (q+k)=some (iv x):=by
 rcases h with⟨rfl,rfl⟩ | ⟨j,q,cap,rfl,h1,h2⟩
 ·simp at hk
 ·have hlt:k<l.length:=by
   rcases A8N k l.length with h' | h'
   ·exact h'
   ·rw[A8W h']at hk;cases hk
  exact⟨j,q,cap,rfl,h1,by rw[Xk h2 hlt];exact dT hk⟩
theorem Cl.len{s:CO}{l:List Int}{v:AV}(h:Cl s v l)(s':CO):D9 prog s' 30 v=some (iv (l.length:Int)):=by
 rcases h with⟨rfl,rfl⟩ | ⟨j,q,cap,rfl,_⟩<;>exact DQ underlying30
end
end Go.Proofs.YtoaaclpjkelofaaGreatDoor.Am
set_option linter.all false
set_option maxHeartbeats 1000000
set_option maxRecDepth 12000
namespace Go.Proofs.YtoaaclpjkelofaaGreatDoor.Am
open Go Go.Proofs
noncomputable section
open Tryz
def Gx(tx:Int→List Nat):List Int→List Nat
 | []=>[]
 | n::l=>tx n++32::Gx tx l
theorem Nc(tx:Int→List Nat)(m:List Int):∀l:List Int,Gx tx (l++m)=Gx tx l++Gx tx m
 | []=>rfl
 | n::l=>by simp only[A8e,Gx,Nc tx m l,A8n]
theorem Lh(tx:Int→List Nat){B:Nat}:∀ {l:List Int},(∀n∈l,(tx n).length≤B)→(Gx tx l).length≤l.length * (B+1)
 | [],_=>by simp[Gx]
 | n::l,h=>by
  have h1:=h n A8M
  have h2:=Lh tx (l:=l) fun m hm=>h m (A8J _ hm)
  simp only[Gx,A8X,A8P,A8o]at h2 ⊢
  omega
theorem PS(tx:Int→List Nat):∀ {l:List Int},(∀n∈l,∀b∈tx n,b<256)→∀b∈Gx tx l,b<256
 | [],_,b,hb=>by cases hb
 | n::l,h,b,hb=>by
  simp only[Gx,A8q,A8I]at hb
  rcases hb with hb | rfl | hb
  ·exact h n A8M b hb
  ·omega
  ·exact PS tx (fun m hm=>h m (A8J _ hm)) b hb
section
variable{E:Dw}(hE:TG E){s:CO}{v:AV}{l:List Int}(hv:Cl s v l)(hl:l.length≤1000000)(tx:Int→List Nat)
 (hI:∀n∈l,∀ (s':CO) (K:AV→CO→Prop),DL s.next s s'→K (.str (tx n)) s'→WF E 59 [iv n] K s') (hB:∀n∈l,(tx n).length≤30) (hb:∀n∈l,∀b∈tx n,b<256)
include hE hv hl hI hB
theorem Vv{i:Nat}(hi:s.next≤i){Q:Da→Prop}(x1:AV)(hQ:∀ (s':CO)(O':List Nat)(y3 y7:AV),DL s.next s s'→eE s' i (Gx tx l) O'→(∀j∈O',s.next≤j)→Q ⟨.exit 0,[v,x1,.ptr (some (i,0)),y3,v,iv (l.length:Int),iv (l.length:Int),y7],[],s'⟩):
  ∀ (l2:List Int) (k:Nat) (s':CO) (O':List Nat) (x3 x7:AV),l.drop k=l2→k≤l.length→DL s.next s s'→eE s' i (Gx tx (l.take k)) O'→(∀j∈O',s.next≤j) →
   WC E none (.loop Ww) Q [v,x1,.ptr (some (i,0)),x3,v,iv (l.length:Int),iv (k:Int),x7] [] s':=by
 intro l2
 induction l2 with
 | nil =>
  intro k s' O' x3 x7 hd hk ho hs hO
  have hkl:k=l.length:=by
   have:=congrArg List.length hd
   simp at this;omega
  subst hkl
  refine WC.loop' ?_
  simp only[Ww,lR,Rz,A8l,A9a,Qa,Qb,QS]
  rw[List.take_length]at hs
  exact hQ s' O' _ _ ho hs hO
 | cons n l2 ih =>
  intro k s' O' x3 x7 hd hk ho hs hO
  have hlt:k<l.length:=by
   rcases A8N k l.length with h' | h'
   ·exact h'
   ·rw[List.drop_eq_nil_of_le h']at hd;cases hd
  have hn:l[k]? = some n:=by
   have:=congrArg (fun l=>l[0]?) hd
   simpa using this
  have hd':l.drop (k+1)=l2:=by
   have:=congrArg (List.drop 1) hd
   simpa[List.drop_drop]using this
  have hnm:=A8a hn
  obtain⟨j,q,cap,rfl,hj,hld⟩:=(hv.old ho).at hn
  have hkk:decide ((k:Int)<(l.length:Int))=true:=decide_eq_true (by omega)
  have e1:=Cj (cap:=cap) (i:=j) (o:=q) underlying30 HC hlt
  have e2:CJ prog s' 3 (.ptr (some (j,q+k * 1)))=some (iv n):=by rw[Ha Ee,A8S];exact hld
  have e3:=Db prog 3 (k:Int) 1 ⟨by omega,by omega⟩
  have e3':((k:Int)+1)=((k+1:Nat):Int):=by omega
  have htk:l.take (k+1)=l.take k++[n]:=by rw[List.take_add_one,hn];rfl
  have hlen:=Lh tx (B:=30) (l:=l.take k) fun m hm=>hB m (List.mem_of_mem_take hm)
  rw[List.length_take]at hlen
  have hln:=hB n hnm
  have hadd:Ch prog .add 9 (.str (tx n)) (.str [32])=some (.str (tx n++[32])):=by
   show CU (Nat.ble ((tx n).length+[32].length) 1152921504606846976) _=_
   rw[EA (show(tx n).length+[32].length≤1152921504606846976 by simp;omega)];rfl
  refine WC.loop' ?_
  generalize hW:WC E none (Ck.loop Ww) Q=W
  simp only[Ww,lR,xH,xI,xJ,Rz,hkk,e1,e2,Qa,Qb,QS]
  refine hI n hnm s' _ ho ?_
  simp only[hadd,QS]
  refine aZ hE hs (y:=tx n++[32]) (by simp) (by simp;omega) fun s2 O2 g1 g2 g3 g4=>?_
  simp only[e3,e3',QS]
  rw[← hW]
  refine ih (k+1) s2 O2 _ _ hd' hlt ⟨by have:=ho.1;omega,fun j' hj'=>by rw[g3 j' (by have:=ho.1;omega) (by omega) (fun hm=>by have:=hO j' hm;omega)];exact ho.2 j' hj'⟩ ?_ (fun j' hj'=>(g4 j' hj').elim (hO j') (fun h=>by have:=ho.1;omega))
  rw[htk,Nc]
  exact g1
include hb
theorem SI(h0:0<l.length){K:AV→CO→Prop}(hK:∀s',DL s.next s s'→K (.str (Gx tx l)) s'):WF E 42 [v] K s:=by
 refine hE.go A1p (by decide) rfl ?_
 have hlen:=hv.len
 have hs0:s=ext s []:=(Ca s).symm
 generalize hs:s.next=b
 rw[hs0]
 simp only[A7M,xE,xF,xG,F4,A5t,hs,hlen,Qa,Qb,QS,Wg]
 have ho:DL s.next s (ext s [R 108 0 false [.ptr none,.slice none 0 (some 0)]]):=⟨by rw[Ce,CN];omega,fun j hj=>Cm hj⟩
 have hsb:eE (ext s [R 108 0 false [.ptr none,.slice none 0 (some 0)]]) (nid b 0) (Gx tx (l.take 0)) []:=
  ⟨⟨_,_,by rw[CR hs (by simp)];rfl,.inl rfl,.inl ⟨rfl,rfl,rfl,rfl⟩,fun i o n c r e=>by cases e⟩,by rw[Ce,hs,CN,CN];simp,by simp⟩
 refine Vv hE hv hl tx hI hB (i:=nid b 0) (by rw[CN];omega) _ (fun s' O' y3 y7 g1 g2 g3=>?_) l 0 _ [] _ _ rfl (A8T _) ho hsb (fun j hj=>by cases hj)
 have hlen2:=Lh tx (B:=30) (l:=l) hB
 have hpos:0<(Gx tx l).length:=by
  cases l with
  | nil=>simp at h0
  | cons n l=>simp only[Gx,A8X,A8P];omega
 simp only[xK,Qb,QS]
 refine YO hE g2 hpos (PS tx hb) (by omega) fun s2 k1 k2=>?_
 simp only[QS]
 exact hK s2 ⟨by have:=g1.1;omega,fun j hj=>by rw[k2 j (fun hm=>by have:=g3 j hm;omega)];exact g1.2 j (by omega)⟩
end
end
end Go.Proofs.YtoaaclpjkelofaaGreatDoor.Am
set_option linter.all false
namespace Go.Proofs.YtoaaclpjkelofaaGreatDoor.Am
open Go Go.Proofs Go.WideElems Go.ChangeMaps
noncomputable section
open Tryz
set_option maxRecDepth 20000 in
theorem gJ{B off b1 b2:Nat}{d k st1 st2:Int}{u1 u2:Value}{w w2 w3 w4 w5:World}
  (hS:∀x,x=w∨x=w2∨x=w3∨x=w4∨x=w5→x.cell? ⟨B,off+1,none⟩=some (.map (some b1))∧x.cell? ⟨B,off+2,none⟩=some (.map (some b2)))
  (h1:(Instr.mapEntry 57 (.map (some b1)) (.int .i64 d)).run prog w.drew=.ok (.tuple #[u1,.int .i64 st1]) w2)
  (h2:(Instr.entryStore 57 (.map (some b1)) (.int .i64 st1) (.agg #[])).run prog w2=.ok () w3)
  (h3:(Instr.mapEntry 57 (.map (some b2)) (.int .i64 k)).run prog w3=.ok (.tuple #[u2,.int .i64 st2]) w4)
  (h4:(Instr.entryStore 57 (.map (some b2)) (.int .i64 st2) (.agg #[])).run prog w4=.ok () w5):
  Calls prog 66 #[.pointer (some ⟨B,off,none⟩),.int .i64 d,.int .i64 k] w fun e w'=>e=.returned (.tuple #[])∧w'=w5:=by
 have hw:=hS w (.inl rfl)
 have hw2:=hS w2 (.inr (.inl rfl))
 have hw3:=hS w3 (.inr (.inr (.inl rfl)))
 have hw4:=hS w4 (.inr (.inr (.inr (.inl rfl))))
 have hw5:=hS w5 (.inr (.inr (.inr (.inr rfl))))
 have hb:∀u:World,(Instr.build 63 #[]).run prog u=.ok (.agg #[]) u:=fun u=>by kernel_rfl
 go_enter func66,Tryz.ntmps66
 go_region_held (fun w'=>w'.cell? ⟨B,off+1,none⟩=some (.map (some b1))∧w'.cell? ⟨B,off+2,none⟩=some (.map (some b2))) (go_keep) (fail)
 go_end0
 exact⟨rfl,rfl⟩
theorem XH{P:Program}{w:World}{t k e:TypeId}{b:Nat}{es:Array MapEntry}{clock:Nat}(K:Go.Maps.Keyed P k)(ht:P.underlying t=some (.map k e)){z:Value}(hz:∀u:World,(zeroValue e).run P u=.ok z u)(hb:w.heap[b]? = some (.map es clock))(hst:MapKept.Stamped es clock)
    (hty:∀e∈es.toList,∃l,keyOf P k e.key=some l) {key:Value} {kl:Lit} (hkey:keyOf P k key=some kl):
    ∃ (v0:Value) (st:Nat) (es1:Array MapEntry) (clock1:Nat),(Instr.mapEntry t (.map (some b)) key).run P w=.ok (.tuple #[v0,goInt st]) (setBlock w b (.map es1 clock1)) ∧
      ∀ (w2 : World) (val : Value), w2.heap[b]? = some (.map es1 clock1) → ∃ es' clock', (Instr.entryStore t (.map (some b)) (goInt st) val).run P w2 = .ok () (setBlock w2 b (.map es' clock')) ∧
        (Instr.mapUpdate t (.map (some b)) key val).run P w=.ok () (setBlock w b (.map es' clock')):=by
  obtain⟨s1,s2,_⟩:=hst
  have hu:=fun u:World=>CW (w:=u) ht
  rcases K.find w hkey es.toList hty with⟨h1,h2⟩ | ⟨j,e0,h1,h2,h3⟩
  · refine ⟨z, clock, es.push ⟨key, z, clock⟩, clock + 1, ?_, fun w2 val hw2 => ⟨es.push ⟨key, val, clock⟩, clock + 1, ?_, ?_⟩⟩
    · simp[Instr.mapEntry,hu,MapKept.run_getObj_map hb,K.check w false hkey,h1,hz,MapKept.run_setObj_map _ hb,Result.andThen,setBlock]
    · have hidx:(es.push ⟨key,z,clock⟩).findIdx? (fun e=>((e.born:Nat):Int) == ((clock:Nat):Int))=some es.size:=by
        rw[findIdx_arr]
        have:=findIdx_born (l:=(es.push ⟨key,z,clock⟩).toList) (j:=es.size) (e0:=⟨key,z,clock⟩) (by
          simp only[Array.toList_push,A8r,A8U,List.map_nil]
          refine List.nodup_append.2 ⟨s2,by simp,fun a ha c hc e1=>?_⟩
          simp only[A9E]at hc
          obtain⟨x,hx,rfl⟩:=List.mem_map.1 ha
          have:=s1 x hx
          omega) (by simp)
        exact this
      have hmod:(es.push ⟨key,z,clock⟩).modify es.size (fun e=>{ e with val:=val })=es.push ⟨key,val,clock⟩:=by
        apply Array.ext'
        rw[Array.toList_modify,Array.toList_push,Array.toList_push,← Array.length_toList,modify_last]
      simp[Instr.entryStore,MapKept.run_getObj_map hw2,asInt,asIntOf,goInt,hidx,hmod,MapKept.run_setObj_map _ hw2,Result.andThen,setBlock]
    · simp[Instr.mapUpdate,hu,MapKept.run_getObj_map hb,K.check w false hkey,h1,MapKept.run_setObj_map _ hb,Result.andThen,setBlock]
  · have hj : es[j]? = some e0 := by simpa using h2
    have hsame:es.modify j (fun e=>{ e with key:=key })=es:=by
      apply Array.ext'
      rw[Array.toList_modify,modify_eq_set _ _ _ _ h2]
      have:({ e0 with key:=key }:MapEntry)=e0:=by rw[← h3]
      rw[this]
      exact set_self _ _ _ h2
    refine⟨e0.val,e0.born,es,clock,?_,fun w2 val hw2=>⟨es.modify j (fun e'=>{ e' with key:=key,val:=val }),clock,?_,?_⟩⟩
    · simp[Instr.mapEntry,hu,MapKept.run_getObj_map hb,K.check w false hkey,h1,hj,h3,K.stays w hkey,hsame,MapKept.run_setObj_map _ hb,Result.andThen,setBlock]
    · have hidx:es.findIdx? (fun e=>((e.born:Nat):Int) == ((e0.born:Nat):Int))=some j:=by
        rw[findIdx_arr]
        exact findIdx_born s2 h2
      have hmod:es.modify j (fun e=>{ e with val:=val })=es.modify j (fun e'=>{ e' with key:=key,val:=val }):=by
        apply Array.ext'
        rw[Array.toList_modify,Array.toList_modify,modify_eq_set _ _ _ _ h2,modify_eq_set _ _ _ _ h2,← h3]
      simp[Instr.entryStore,MapKept.run_getObj_map hw2,asInt,asIntOf,goInt,hidx,hmod,MapKept.run_setObj_map _ hw2,Result.andThen,setBlock]
    · simp[Instr.mapUpdate,hu,MapKept.run_getObj_map hb,K.check w false hkey,h1,hj,h3,K.stays w hkey,MapKept.run_setObj_map _ hb,Result.andThen,setBlock]
def Ml (s:CO):List AV→Option (AV×CO)
 | [.ptr (some (i,o)),.int .i64 d,.int .i64 k]=>(FQ s i (o+1)).bind fun m1=>(FQ s i (o+2)).bind fun m2=>match m1,m2 with
  | .map (some a),.map (some b)=>(Jf s 3 a).bind fun es=>CU (Nat.ble es.length 1000000) <|
   (EF prog s 57 (.map (some a)) (.int .i64 d) (.agg [])).bind fun s1=>(Jf s1 3 b).bind fun fs=>CU (Nat.ble fs.length 1000000) <|
   (EF prog s1 57 (.map (some b)) (.int .i64 k) (.agg [])).bind fun s2=>some (.tuple [],s2)
  | _,_=>none
 | _=>none
section
variable{ρ:DV}{s s1:CO}{w w1:World}
theorem MN(w:World){b c:Nat}(o:Obj)(h:c≠b)(n:Nat):(setBlock w b o).cell? ⟨c,n,none⟩=w.cell? ⟨c,n,none⟩:=
 Ju (a:=⟨c,n,none⟩) (by simp[setBlock,A9c (Ne.symm h)])
theorem XG(h:DU prog ρ s w){a:Nat}{rb:RB}(hr:ρ a=some rb){es:List (AV×AV)}(hes:Jf s 3 a=some es)(hl:es.length≤1000000){d:Int}(hu:EF prog s 57 (.map (some a)) (.int .i64 d) (.agg [])=some s1):
  ∃ (u:Value) (st:Int) (w2 w3:World),(Instr.mapEntry 57 (.map (some rb.b)) (.int .i64 d)).run prog w=.ok (.tuple #[u,.int .i64 st]) w2∧(Instr.entryStore 57 (.map (some rb.b)) (.int .i64 st) (.agg #[])).run prog w2=.ok () w3 ∧
   DU prog ρ s1 w3∧Fr ρ s w ρ s1 w3∧∀c n v,w.cell? ⟨c,n,none⟩=some v→w2.cell? ⟨c,n,none⟩=some v∧w3.cell? ⟨c,n,none⟩=some v:=by
 obtain⟨es',clock,e1,e2,⟨l,e3,e4⟩,e5⟩:=(show Kn prog ρ w 3 es rb from h.obj a _ rb (IJ hes) hr).ex
 have hko:Ib prog 3=true:=by kernel_rfl
 have K:=LB hko
 have hkey:E3 prog 3 (.int .i64 d)=true:=by
  unfold EF at hu
  simp only[underlying57]at hu
  exact(CM hu).1
 obtain⟨lk,hx⟩:=Hf hko hkey (.int (ρ:=ρ) .i64 d)
 obtain⟨w9,hrun,hinv,hfr⟩:=Mt h (by kernel_rfl) hu (.map hr) (.int .i64 d) (.agg .nil)
 obtain⟨v0,st,es1,clock1,k1,k3⟩:=XH K underlying57 (z:=.agg #[]) (fun u=>by kernel_rfl) e1 e2 e5 hx
 have hb:(setBlock w rb.b (.map es1 clock1)).heap[rb.b]? = some (.map es1 clock1):=by simp[setBlock,h.lt a rb hr]
 obtain⟨es9,clock9,k4,k5⟩:=k3 (setBlock w rb.b (.map es1 clock1)) (.agg #[]) hb
 have hw9:w9=setBlock w rb.b (.map es9 clock9):=by
  have:=hrun.symm.trans k5
  injection this
 have hover:setBlock (setBlock w rb.b (.map es1 clock1)) rb.b (.map es9 clock9)=w9:=by rw[hw9];simp[setBlock]
 have hne:∀c n v,w.cell? ⟨c,n,none⟩=some v→c≠rb.b:=fun c n v hc e=>by subst e;simp[World.cell?,e1]at hc
 refine⟨v0,(st:Int),_,w9,k1,by rw[← hover];exact k4,hinv,hfr,fun c n v hc=>?_⟩
 have hcb:=hne c n v hc
 exact⟨by rw[MN _ _ hcb];exact hc,by rw[hw9,MN _ _ hcb];exact hc⟩
theorem UN(h:DU prog ρ s w){ys:List AV}{as':Array Value}{v:AV}(hs:Ml s ys=some (v,s1))(has:Cb ρ ys as'.toList):CallsIn Fence.wide 0 prog 66 as' w (Ey prog ρ s w v s1):=by
  refine callsIn_wide.2 ?_
  unfold Ml at hs
  split at hs<;>first | (cases hs;done) | skip
  rename_i i o d k
  simp only[A8G]at hs
  obtain⟨m1,hm1,m2,hm2,hs⟩:=hs
  split at hs<;>first | (cases hs;done) | skip
  rename_i a b
  simp only[A8G]at hs
  obtain⟨es,hes,hs⟩:=hs
  obtain⟨hle,hs⟩:=CM hs
  simp only[A8G]at hs
  obtain⟨sa,hua,fs,hfs,hs⟩:=hs
  obtain⟨hlf,hs⟩:=CM hs
  simp only[A8G]at hs
  obtain⟨sb,hub,hs⟩:=hs
  injection hs with hs
  injection hs with q1 q2
  subst q1;subst q2
  obtain⟨l0⟩:=as'
  cases has with
  | cons p1 p2 =>
  cases p2 with
  | cons p2 p3 =>
  cases p3 with
  | cons p3 p4 =>
  cases p4
  cases p1 with
  | ptr hr =>
  rename_i rb
  cases p2
  cases p3
  obtain⟨u1,g1,c1⟩:=Hj h hr hm1
  obtain⟨u2,g2,c2⟩:=Hj h hr hm2
  cases g1 with
  | map ha =>
  cases g2 with
  | map hb =>
  rename_i ra rb2
  obtain⟨i0,f0⟩:=h.drew
  obtain⟨v1,st1,w2,w3,r1,r2,i1,f1,k1⟩:=XG i0 ha hes (by simpa[A8Q]using hle) hua
  obtain⟨v2,st2,w4,w5,r3,r4,i2,f2,k2⟩:=XG i1 hb hfs (by simpa[A8Q]using hlf) hub
  have d1:w.drew.cell? ⟨rb.b,rb.off+(o+1),none⟩=some (.map (some ra.b)):=c1
  have d2:w.drew.cell? ⟨rb.b,rb.off+(o+2),none⟩=some (.map (some rb2.b)):=c2
  have e1:=k1 _ _ _ d1
  have e2:=k1 _ _ _ d2
  have e3:=k2 _ _ _ e1.2
  have e4:=k2 _ _ _ e2.2
  rw[← A8u]at c1 c2 e1 e2 e3 e4
  refine Calls.mono (gJ (B:=rb.b) (off:=rb.off+o) (b1:=ra.b) (b2:=rb2.b) (fun x hx=>?_) r1 r2 r3 r4) ?_
  · rcases hx with rfl | rfl | rfl | rfl | rfl
    · exact⟨c1,c2⟩
    · exact⟨e1.1,e2.1⟩
    · exact⟨e1.2,e2.2⟩
    · exact⟨e3.1,e4.1⟩
    · exact⟨e3.2,e4.2⟩
  · rintro e w' ⟨rfl,rfl⟩
    exact⟨ρ,.tuple .nil,i2,(f0.trans f1).trans f2⟩
end
def dZ:Gl:=TJ 59 fun xs s=>Vc s xs
theorem pE:Du prog dZ:=GR fun ρ s w xs v s1 xs' hc hi hf ha=>⟨⟨_,_,func59,rfl⟩,Tr hi hc ha⟩
theorem A3G:TG ⟨prog,dZ⟩:=⟨rfl,fun f xs s hf=>by
 have h1:Nat.beq f 59=false:=Iw fun e=>hf (by rw[e];decide)
 show dZ f xs s=none
 simp[dZ,TJ,h1]⟩
def af(n:Int):List Nat:=Mb n.toNat
def WD:List Int→Bool
 | []=>true
 | .ofNat n::l=>Nat.blt n 100 && WD l
 | _::_=>false
theorem UY:∀ {l:List Int},WD l=true→∀n∈l,∃m:Nat,n=m∧m<100
 | [],_,n,h=>by cases h
 | .ofNat a::l,h,n,hn=>by
  simp only[WD,A9W,A8Y]at h
  rcases A8I.1 hn with rfl | hn
  ·exact⟨a,rfl,h.1⟩
  ·exact UY h.2 n hn
 | .negSucc a::l,h,n,hn=>by cases h
theorem YV{m:Nat}(h:m<100):(af (m:Int)).length≤30∧∀b∈af (m:Int),b<256:=by
 have e:af (m:Int)=Mb m:=by unfold af;simp
 rw[e]
 unfold Mb
 cases Nat.blt m 10 with
 | true=>exact⟨by simp,fun b hb=>by simp at hb;omega⟩
 | false=>exact⟨by simp,fun b hb=>by simp at hb;omega⟩
def SH(s:CO):List AV→Option (AV×CO)
 | [.slice (some (i,o)) n c]=>(Di s i o n).bind fun cs=>(Kd cs).bind fun l=>CU (Nat.blt 0 n && Nat.ble n 1000000 && WD l) (JI (Gx af l) fun t=>some (.str t,s))
 | _=>none
theorem To:∀ {cs:List AV}{l:List Int},Kd cs=some l→cs=Dv l
 | [],l,h=>by injection h with h;subst h;rfl
 | v::cs,l,h=>by
  unfold Kd at h
  split at h<;>first | (cases h;done) | skip
  ·rename_i hq;cases hq
  ·rename_i x l2 hq
   injection hq with q1 q2
   subst q1;subst q2
   simp only[A8G]at h
   obtain⟨r,h1,h2⟩:=h
   injection h2 with h2
   subst h2
   rw[To h1];rfl
theorem Xx{ρ:DV}{s s1:CO}{w:World}(h:DU prog ρ s w)(hf:DB ρ s){ys:List AV}{as':Array Value}{v:AV}(hs:SH s ys=some (v,s1))(has:Cb ρ ys as'.toList):
  (∃fn c,prog.funcs[42]? = some fn∧fn.body=some c)∧CallsIn Fence.wide 0 prog 42 as' w (Ey prog ρ s w v s1):=by
 unfold SH at hs
 split at hs<;>first | (cases hs;done) | skip
 rename_i i o n c
 simp only[A8G]at hs
 obtain⟨cs,hl,l,hx,hs⟩:=hs
 obtain⟨hg,hs⟩:=CM hs
 simp only[A9W,A8Q,A8Y]at hg
 rw[Ez]at hs
 injection hs with hs
 injection hs with q1 q2
 subst q1;subst q2
 have hcs:=To hx
 obtain⟨r,hrow⟩:∃r,rowAt s i=some r:=by
  unfold Di at hl
  cases hrw:rowAt s i with
  | none=>rw[hrw]at hl;cases hl
  | some r=>exact⟨r,rfl⟩
 obtain⟨g1,g2⟩:=HP hrow hl
 have hlen:l.length=n:=by
  have:=CT.take_length g2
  rw[hcs,FD]at this;exact this
 have hi:i<s.next:=by
  rcases A8N i s.next with h' | h'
  ·exact h'
  ·have:=(hf i h').2
   rw[DW hrow]at this;cases this
 have hsm:=UY hg.2
 refine nW pE h hf has rfl ?_
 have hrd:Cl (frz s.next s.heap) (.slice (some (i,o)) n c) l:=by
  refine .inr ⟨i,o,c,by rw[hlen],hi,?_⟩
  have hfz:(frz s.next s.heap).heap.get i=some (.row { r with mode:=.ro,par:=none }):=by
   unfold frz
   simp only[CT.get_mapO,DW hrow,Option.bind_some,MX]
  rw[hfz,hlen]
  show CU (Nat.ble (o+n) r.n) (r.c.take o n)=_
  rw[EA g1,g2,hcs];rfl
 refine SI A3G hrd (by omega) af (fun m hm s' K _ hK=>?_) (fun m hm=>?_) (fun m hm=>?_) (by omega) fun s' _=>rfl
 ·obtain⟨k,rfl,hk⟩:=hsm m hm
  refine WF.nat (p:=(.str (af (k:Int)),s')) ?_ hK
  have hb:Nat.blt k 100=true:=by simpa[A8Y]using hk
  show(CU (Nat.blt k 100) (JI (Mb k) fun t=>some (AV.str t,s')))=_
  rw[hb,Ez];rfl
 ·obtain⟨k,rfl,hk⟩:=hsm m hm
  exact(YV hk).1
 ·obtain⟨k,rfl,hk⟩:=hsm m hm
  exact(YV hk).2
end
end Go.Proofs.YtoaaclpjkelofaaGreatDoor.Am
set_option linter.all false
namespace Go.Proofs.YtoaaclpjkelofaaGreatDoor.Am
open Go
noncomputable section
open Tryz
def rest:Nat→Code→Code
 | n+1,.seq a b=>rest n b
 | _,c=>c
def YL:WT→WT→Bool
 | .ro,.ro | .own,.own | .sealed,.sealed=>true
 | _,_=>false
def aW:Option Nat→Option Nat→Bool
 | none,none=>true
 | some a,some b=>Nat.beq a b
 | _,_=>false
def pu(a b:Bool):Bool:=bif a then b else !b
def sT:List (AV×AV)→List (AV×AV)→Bool
 | [],[]=>true
 | a::l,b::m=>IG a.1 b.1 && (IG a.2 b.2 && sT l m)
 | _,_=>false
def YI(n:Nat)(c c':CT AV):Bool:=match c.take 0 n,c'.take 0 n with
 | some l,some l'=>IG.eqAs l l'
 | _,_=>false
def sameO:Cg→Cg→Bool
 | .row q,.row r=>Nat.beq q.elem r.elem && (Nat.beq q.sz r.sz && (Nat.beq q.n r.n && (pu q.spare r.spare && (YL q.mode r.mode && (aW q.par r.par && (pu q.bytes r.bytes && (aW q.glob r.glob && YI r.n q.c r.c)))))))
 | .map kt es,.map kt' es'=>Nat.beq kt kt' && sT es es'
 | _,_=>false
def Ft:List (Nat×Cg)→CT Cg
 | []=>.leaf
 | p::l=>(Ft l).set p.1 p.2
structure Cut where
 lst:List (Nat×Cg)
 nx:Nat
 var:List AV
def tz(l:List (Nat×Cg))(nx:Nat)(h:CT Cg):Bool:=l.all fun p=>Nat.blt p.1 nx && (match h.get p.1 with | some o=>sameO p.2 o | none=>false)
def tN:List Nat→Bool
 | []=>true
 | _=>false
def A5y(r:Option Da)(C:Cut):Bool:=match r with
 | some q=>K7 q.exit && (tN q.marks && (Po q.var C.var && (Nat.ble q.st.next C.nx && tz C.lst C.nx q.st.heap)))
 | none=>false
theorem IY:∀ {l:List (Nat×Cg)}{i:Nat}{o:Cg},(Ft l).get i=some o→(i,o)∈l
 | [],i,o,h=>by cases h
 | p::l,i,o,h=>by
  unfold Ft at h
  rw[CT.get_set]at h
  split at h
  ·rename_i e
   injection h with h
   subst e;subst h
   exact A8M
  ·exact A8J _ (IY h)
theorem UV:∀ {a b:Option Nat},aW a b=true→a=b
 | none,none,_=>rfl
 | some a,some b,h=>by rw[A8R h]
theorem YH{a b:Bool}(h:pu a b=true):a=b:=by cases a<;>cases b<;>first | rfl | cases h
theorem YM{a b:WT}(h:YL a b=true):a=b:=by cases a<;>cases b<;>first | rfl | cases h
theorem VN:∀ {a b:List (AV×AV)},sT a b=true→a=b
 | [],[],_=>rfl
 | (a1,a2)::l,(b1,b2)::m,h=>by
  simp only[sT,A9W]at h
  rw[HM h.1,HM h.2.1,VN h.2.2]
 | [],_::_,h=>by cases h
 | _::_,[],h=>by cases h
section
variable{P:Program}{ρ ρ1 ρ2:DV}{s s1 s2:CO}{w w1 w2:World}
theorem qC{l:List (Nat×Cg)}{nx:Nat}{h:CT Cg}(hs:tz l nx h=true){i:Nat}{o:Cg}(hg:(Ft l).get i=some o):i<nx∧∃o',h.get i=some o'∧sameO o o'=true:=by
 have:=A8w.1 hs (i,o) (IY hg)
 simp only[A9W]at this
 refine⟨A8z this.1,?_⟩
 have h2:=this.2
 split at h2
 ·rename_i o' ho;exact⟨o',ho,h2⟩
 ·cases h2
end
def IS:Cg→Cg→Prop
 | .row q,.row r=>q.elem=r.elem∧q.sz=r.sz∧q.n=r.n∧q.spare=r.spare∧q.mode=r.mode∧q.par=r.par∧q.bytes=r.bytes∧q.glob=r.glob∧∃l,q.c.take 0 q.n=some l∧r.c.take 0 r.n=some l
 | .map kt es,.map kt' es'=>kt=kt'∧es=es'
 | _,_=>False
theorem YJ{n:Nat}{c c':CT AV}(h:YI n c c'=true):∃l,c.take 0 n=some l∧c'.take 0 n=some l∧IG.eqAs l l=true:=by
 unfold YI at h
 split at h<;>first | (cases h;done) | skip
 rename_i l l' h1 h2
 have:=I0 h
 subst this
 exact⟨l,h1,h2,h⟩
theorem KN{a b:Cg}(h:sameO a b=true):IS a b:=by
 unfold sameO at h
 split at h
 ·simp only[A9W]at h
  obtain⟨h1,h2,h3,h4,h5,h6,h7,h8,h9⟩:=h
  obtain⟨l,k1,k2,_⟩:=YJ h9
  have e3:=A8R h3
  exact⟨A8R h1,A8R h2,e3,YH h4,YM h5,UV h6,YH h7,UV h8,l,by rw[e3];exact k1,k2⟩
 ·simp only[A9W]at h
  exact⟨A8R h.1,VN h.2⟩
 ·cases h
theorem IS.symm{a b:Cg}(h:IS a b):IS b a:=by
 cases a<;>cases b<;>first | exact h.elim | skip
 ·obtain⟨h1,h2,h3,h4,h5,h6,h7,h8,l,h9,h10⟩:=h
  exact⟨h1.symm,h2.symm,h3.symm,h4.symm,h5.symm,h6.symm,h7.symm,h8.symm,l,h10,h9⟩
 ·exact⟨h.1.symm,h.2.symm⟩
theorem IS.trans{a b c:Cg}(h:IS a b)(k:IS b c):IS a c:=by
 cases a<;>cases b<;>first | exact h.elim | skip
 ·cases c<;>first | exact k.elim | skip
  obtain⟨h1,h2,h3,h4,h5,h6,h7,h8,l,h9,h10⟩:=h
  obtain⟨k1,k2,k3,k4,k5,k6,k7,k8,m,k9,k10⟩:=k
  rw[h10]at k9
  injection k9 with k9
  subst k9
  exact⟨h1.trans k1,h2.trans k2,h3.trans k3,h4.trans k4,h5.trans k5,h6.trans k6,h7.trans k7,h8.trans k8,l,h9,k10⟩
 ·cases c<;>first | exact k.elim | skip
  exact⟨h.1.trans k.1,h.2.trans k.2⟩
theorem PD(a:Nat):Nat.beq a a=true:=by simp
theorem IS.sameO{o a b:Cg}(h:IS o a)(hb:sameO a b=true):Am.sameO o a=true:=by
  cases o<;>cases a<;>first | exact h.elim | skip
  · rename_i q r
    obtain⟨qe,qs,qn,qc,qsp,qm,qp,qb,qg⟩:=q
    obtain⟨re,rs,rn,rc,rsp,rm,rp,rb,rg⟩:=r
    obtain⟨h1,h2,h3,h4,h5,h6,h7,h8,l,h9,h10⟩:=h
    simp only at h1 h2 h3 h4 h5 h6 h7 h8 h9 h10
    subst h1;subst h2;subst h3;subst h4;subst h5;subst h6;subst h7;subst h8
    cases b with
    | row t =>
      simp only[Am.sameO,A9W]at hb
      obtain⟨_,_,g3,_,_,_,_,_,g9⟩:=hb
      have e3:qn=t.n:=A8R g3
      rw[← e3]at g9
      obtain⟨l',k1,_,k3⟩:=YJ g9
      have k1:rc.take 0 qn=some l':=k1
      rw[h10]at k1
      injection k1 with k1
      subst k1
      have e9:YI qn qc rc=true:=by unfold YI;rw[h9,h10];exact k3
      simp only[Am.sameO,A9W]
      refine⟨PD _,PD _,PD _,by cases qsp<;>rfl,by cases qm<;>rfl,?_,by cases qb<;>rfl,?_,e9⟩
      · cases qp with
        | none=>rfl
        | some x=>exact PD x
      · cases qg with
        | none=>rfl
        | some x=>exact PD x
    | _=>cases hb
  · obtain⟨h1,h2⟩:=h
    subst h1;subst h2
    cases b with
    | map kt' es' =>
      simp only[Am.sameO,A9W]at hb ⊢
      have:=VN hb.2
      rw[← this]at hb
      exact⟨PD _,hb.2⟩
    | _=>cases hb
theorem IS.ok{P:Program}{o o':Cg}(h:IS o o'):wr o=wr o'∧Ih o=Ih o'∧Hp o=Hp o'∧∀ {ρ:DV}{w:World}{rb:RB},Gq P ρ w o' rb→Gq P ρ w o rb:=by
 cases o<;>cases o'<;>first | exact h.elim | skip
 ·rename_i q r
  obtain⟨qe,qs,qn,qc,qsp,qm,qp,qb,qg⟩:=q
  obtain⟨re,rs,rn,rc,rsp,rm,rp,rb,rg⟩:=r
  obtain⟨h1,h2,h3,h4,h5,h6,h7,h8,l,h9,h10⟩:=h
  simp only at h1 h2 h3 h4 h5 h6 h7 h8 h9 h10
  subst h1;subst h2;subst h3;subst h4;subst h5;subst h6;subst h7;subst h8
  refine⟨rfl,rfl,rfl,fun {ρ w x} hok=>?_⟩
  have hok:Dr ρ w ⟨qe,qs,qn,rc,qsp,qm,qp,qb,qg⟩ x:=hok
  have hc:∀k,k<qn→qc.get k=rc.get k:=fun k hk=>by
   have a1:=CT.take_get h9 k hk
   have a2:=CT.take_get h10 k hk
   simp only[A8V]at a1 a2
   rw[a1,a2]
  exact(show Dr ρ w ⟨qe,qs,qn,qc,qsp,qm,qp,qb,qg⟩ x from
   ⟨fun k v hk hv=>hok.cells k v hk (by rw[← hc k hk];exact hv),hok.le,hok.sz,hok.tight,hok.own,hok.base,hok.gl,hok.par⟩)
 ·obtain⟨h1,h2⟩:=h
  subst h1;subst h2
  exact⟨rfl,rfl,rfl,fun h=>h⟩
def Fk(L:List (Nat×Cg))(i:Nat):Bool:=L.any fun p=>Nat.beq p.1 i
def MK(h:CT Cg)(p:Nat×Cg):CT Cg:=match h.get p.1 with
 | some o=>bif sameO o p.2 then h else h.set p.1 p.2
 | none=>h.set p.1 p.2
def over(h:CT Cg):List (Nat×Cg)→CT Cg
 | []=>h
 | p::l=>over (MK h p) l
def mg(h:CT Cg):List Nat→CT Cg
 | []=>h
 | i::l=>mg (h.del i) l
theorem Tk{L:List (Nat×Cg)}{i:Nat}:Fk L i=true↔∃o,(i,o)∈L:=by
 unfold Fk
 rw[List.any_eq_true]
 constructor
 ·rintro⟨⟨j,o⟩,h1,h2⟩;have:=A8R h2;subst this;exact⟨o,h1⟩
 ·rintro⟨o,h⟩;exact⟨(i,o),h,PD i⟩
theorem aM(h:CT Cg)(p:Nat×Cg):∃o,(MK h p).get p.1=some o∧(o=p.2∨sameO o p.2=true):=by
  unfold MK
  cases hg:h.get p.1 with
  | none=>exact⟨p.2,by simp only;rw[CT.get_set,if_pos rfl],.inl rfl⟩
  | some o =>
    simp only
    cases hs:sameO o p.2 with
    | true=>exact⟨o,hg,.inr hs⟩
    | false=>exact⟨p.2,by rw[cond_false,CT.get_set,if_pos rfl],.inl rfl⟩
theorem PV{h:CT Cg}{p:Nat×Cg}{i:Nat}(hi:i≠p.1):(MK h p).get i=h.get i:=by
  unfold MK
  cases hg:h.get p.1 with
  | none=>simp only;rw[CT.get_set,if_neg hi]
  | some o =>
    simp only
    cases hs:sameO o p.2 with
    | true=>rfl
    | false=>rw[cond_false,CT.get_set,if_neg hi]
theorem KH{i:Nat}:∀ {L:List (Nat×Cg)}{h:CT Cg},Fk L i=false→(over h L).get i=h.get i
 | [],h,_=>rfl
 | p::l,h,hi=>by
  simp only[Fk,List.any_cons,Bool.or_eq_false_iff]at hi
  have hne:i≠p.1:=fun e=>by rw[e,PD]at hi;cases hi.1
  show(over (MK h p) l).get i=_
  rw[KH (L:=l) hi.2,PV hne]
theorem X3{i:Nat}:∀ {L:List (Nat×Cg)}{h:CT Cg},Fk L i=true→∃o,(over h L).get i=some o∧∃p∈L,p.1=i∧(o=p.2∨sameO o p.2=true)
  | [],h,hi=>by cases hi
  | p::l,h,hi=>by
    show ∃o,(over (MK h p) l).get i=some o∧_
    cases hl:Fk l i with
    | true =>
      obtain⟨o,h1,q,h2,h3⟩:=X3 (h:=MK h p) hl
      exact⟨o,h1,q,A8J _ h2,h3⟩
    | false =>
      have he:p.1=i:=by
        unfold Fk at hi hl
        rw[List.any_cons,hl,Bool.or_false]at hi
        exact A8R hi
      subst he
      obtain⟨o,h1,h2⟩:=aM h p
      exact⟨o,by rw[KH hl];exact h1,p,A8M ..,rfl,h2⟩
theorem UL{i:Nat}{o:Cg}:∀ {L:List (Nat×Cg)}{h:CT Cg},h.get i=some o→(∀p∈L,p.1=i→sameO o p.2=true)→(over h L).get i=some o
 | [],h,hg,_=>hg
 | p::l,h,hg,hk=>by
  show(over (MK h p) l).get i=_
  refine UL ?_ fun q hq=>hk q (A8J _ hq)
  by_cases he:i=p.1
  ·subst he
   unfold MK
   rw[hg]
   simp only
   rw[hk p (A8M ..) rfl,cond_true]
   exact hg
  ·rw[PV he];exact hg
theorem XB{i:Nat}:∀ {D:List Nat}{h:CT Cg},(mg h D).get i=if i∈D then none else h.get i
  | [],h=>by simp[mg]
  | j::l,h=>by
    show(mg (h.del j) l).get i=_
    rw[XB,CT.get_del]
    by_cases h1:i∈l
    · simp[h1]
    · by_cases h2 : i = j
      · subst h2;simp[h1]
      · simp[h1,h2]
def ic{α:Type}(f:Nat→α→Bool):CT α→Nat→Nat→Bool
 | .leaf,_,_=>true
 | .node v l r,a,b=>(match v with | some x=>f b x | none=>true) && (ic f l (2 * a) (a+b) && ic f r (2 * a) (2 * a+b))
theorem QN{α:Type}{f:Nat→α→Bool}:∀ {t:CT α}{a b k:Nat}{x:α},ic f t a b=true→t.get k=some x→f (a * k+b) x=true
  | .leaf,_,_,_,_,_,h=>by cases h
  | .node v l r, a, b, k, x, h, hg => by
    simp only[ic,A9W]at h
    cases k with
    | zero =>
      have hg:v=some x:=hg
      have h1:=h.1
      rw[hg]at h1
      simpa using h1
    | succ k =>
      rw[CT.get_succ]at hg
      by_cases he:k % 2=0
      · rw[if_pos he]at hg
        have:=QN h.2.1 hg
        have e:2 * a * (k / 2)+(a+b)=a * (k+1)+b:=by
          have:2 * a * (k / 2)=a * k:=by rw[Nat.mul_comm 2 a,Nat.mul_assoc];congr 1;omega
          rw[this,Nat.mul_add];omega
        rw[e]at this;exact this
      · rw[if_neg he]at hg
        have:=QN h.2.2 hg
        have e:2 * a * (k / 2)+(2 * a+b)=a * (k+1)+b:=by
          have h2:k=2 * (k / 2)+1:=by omega
          generalize k / 2=m at *
          subst h2
          rw[Nat.mul_add,Nat.mul_add,← Nat.mul_assoc,Nat.mul_comm a 2];omega
        rw[e]at this;exact this
abbrev iQ(n:Int):AV:=.int .i64 n
abbrev zQ:AV:=.int .i64 0
abbrev eQ:AV:=.str []
abbrev pQ(i:Nat):AV:=.ptr (some (i,0))
abbrev nQ:AV:=.slice none 0 (some 0)
abbrev vQ(i n:Nat):AV:=.slice (some (i,0)) n none
abbrev rQ(e sz n:Nat)(sp:Bool)(l:List AV):Cg:=.row ⟨e,sz,n,CT.fill .leaf 0 l,sp,.own,none,true,none⟩
structure HG where
 f:FuncId
 xs:List AV
 n0:Nat
 L0:List (Nat×Cg)
 v:AV
 n1:Nat
 L1:List (Nat×Cg)
 D:List Nat
def HG.at(r:HG):Gl:=fun f xs s=>CU (Nat.beq f r.f && (IG (.tuple xs) (.tuple r.xs) && (Nat.beq s.next r.n0 && (tz r.L0 r.n0 s.heap && ic (fun i o=>Fk r.L0 i || (match Ih o with | some k=>!Fk r.L0 k | none=>true)) s.heap 1 0)))) (some (r.v,⟨r.n1,mg (over s.heap r.L1) r.D⟩))
def pq(r:HG)(v:AV)(q:CO):Bool:=
 IG v r.v && (Nat.ble r.n0 r.n1 && (Nat.ble q.next r.n1 && (tz r.L1 r.n1 q.heap && ((r.L1.all fun p=>Fk r.L0 p.1 || Nat.ble r.n0 p.1) && ((r.D.all fun i=>Fk r.L0 i && ((q.heap.get i).isNone && !Fk r.L1 i)) &&
 ((r.L0.all fun p=>Fk r.L1 p.1 || (r.D.any (Nat.beq p.1) || (match q.heap.get p.1 with | some o=>sameO p.2 o | none=>false))) &&
 (r.L0.all fun p=>match Ih p.2 with | some k=>Fk r.L0 k | none=>true)))))))
def Hs (E:Dw) (n:Nat) (r:HG):Bool:=match (FI E n).call r.f r.xs ⟨r.n0,Ft r.L0⟩with
 | some p=>pq r p.1 p.2
 | none=>false
theorem IZ{i:Nat}:∀ {L:List (Nat×Cg)},Fk L i=true→∃o,(Ft L).get i=some o
  | [],h=>by cases h
  | p::l,h=>by
    show ∃o,((Ft l).set p.1 p.2).get i=some o
    rw[CT.get_set]
    by_cases e:i=p.1
    · exact⟨p.2,if_pos e⟩
    · rw [if_neg e]
      refine IZ ?_
      unfold Fk at h ⊢
      rw[List.any_cons,A9X]at h
      rcases h with h | h
      · exact absurd (A8R h).symm e
      · exact h
theorem HG.callOk{P:Program}(hm:P.follows .mixedOrders=true)(hng:Gp P){E:Dw}(hE:E.P=P)(hnat:Du P E.nat){n:Nat}{r:HG}(hrow:Hs E n r=true):Du P r.at:=by
  intro ρ s w f xs v s1 xs' hc hi hf ha
  unfold HG.at at hc
  obtain⟨hg,hc2⟩:=CM hc
  simp only[A9W]at hg
  obtain⟨g1,g2,g3,hsub,hall⟩:=hg
  have e1:=A8R g1
  have e2:=HM g2
  injection e2 with e2
  have hn0:=A8R g3
  subst e1;subst e2
  injection hc2 with hc2
  injection hc2 with ev es
  unfold Hs at hrow
  cases hrun:(FI E n).call r.f r.xs ⟨r.n0,Ft r.L0⟩with
  | none=>rw[hrun]at hrow;cases hrow
  | some p =>
  rw[hrun]at hrow
  obtain⟨pv,q⟩:=p
  have hrow:pq r pv q=true:=hrow
  unfold pq at hrow
  simp only[A9W]at hrow
  obtain⟨c1,c2,c3,c4,c5,c6,c7,c8⟩:=hrow
  have hpv:=HM c1
  have hn01:=A8z c2
  have hq1:=A8z c3
  subst hpv
  have sub0:∀i o,(Ft r.L0).get i=some o→i<r.n0∧Fk r.L0 i=true∧∃o',s.heap.get i=some o'∧IS o o'∧sameO o o'=true:=fun i o hg=>by
    obtain⟨h1,o',h2,h3⟩:=qC hsub hg
    exact⟨h1,Tk.2 ⟨o,IY hg⟩,o',h2,KN h3,h3⟩
  have hi0:DU P ρ ⟨r.n0,Ft r.L0⟩ w:=by
    refine⟨fun i o rb hg hρ=>?_,hi.lt,fun i j oi oj ri rj hne hgi hgj hri hrj hb hw=>?_,fun i o g hg hgl=>?_⟩
    · obtain⟨_,_,o',k1,k2,_⟩:=sub0 i o hg
      exact(k2.ok).2.2.2 (hi.obj i o' rb k1 hρ)
    · obtain ⟨_, _, oi', k1, k2, _⟩ := sub0 i oi hgi
      obtain⟨_,_,oj',m1,m2,_⟩:=sub0 j oj hgj
      obtain⟨a1,a2,_⟩:=k2.ok (P:=P)
      obtain⟨b1,b2,_⟩:=m2.ok (P:=P)
      rw[b1]at hw
      rw[a1,b2]
      exact hi.sep i j oi' oj' ri rj hne k1 m1 hri hrj hb hw
    · obtain⟨_,_,o',k1,k2,_⟩:=sub0 i o hg
      rw[(k2.ok (P:=P)).2.2.1]at hgl
      exact hi.glb i o' g k1 hgl
  have hf0:DB ρ ⟨r.n0,Ft r.L0⟩:=fun i hi'=>by
    have hi':r.n0≤i:=hi'
    refine⟨(hf i (by omega)).1,?_⟩
    cases hg:(Ft r.L0).get i with
    | none=>rfl
    | some o=>have:=(sub0 i o hg).1;omega
  have hcall:=(A3r hm hng hE hnat n).call ρ ⟨r.n0,Ft r.L0⟩ w r.f r.xs r.v q xs' hrun hi0 hf0 ha
  refine⟨hcall.1,CallsIn.mono hcall.2 ?_⟩
  intro e w' he
  cases e with
  | panicked c=>exact he.elim
  | outgrown=>exact he.elim
  | returned v' =>
  obtain⟨ρ',k1,k2,k3⟩:=he
  refine⟨ρ',by rw[← ev];exact k1,?_⟩
  have hn1:s1.next=r.n1:=by rw[← es]
  have hget:∀i,s1.heap.get i=if i∈r.D then none else (over s.heap r.L1).get i:=fun i=>by rw[← es];exact XB
  have hL1:∀p∈r.L1,p.1<r.n1∧∃oq,q.heap.get p.1=some oq∧sameO p.2 oq=true:=fun p hp=>by
    have:=A8w.1 c4 p hp
    simp only[A9W]at this
    refine⟨A8z this.1,?_⟩
    have h2:=this.2
    split at h2
    · rename_i oq ho;exact⟨oq,ho,h2⟩
    · cases h2
  have cls:∀i o,s1.heap.get i=some o→(∃oq,q.heap.get i=some oq∧IS o oq∧(Fk r.L0 i=true∨r.n0≤i))∨(i<r.n0∧Fk r.L0 i=false∧s.heap.get i=some o):=by
    intro i o ho
    rw[hget]at ho
    by_cases hD:i∈r.D
    · rw[if_pos hD]at ho;cases ho
    rw[if_neg hD]at ho
    cases hl:Fk r.L1 i with
    | true =>
      obtain⟨o',h1,p,h2,h3,h4⟩:=X3 (h:=s.heap) hl
      rw[h1]at ho
      injection ho with ho
      subst ho
      obtain⟨h5,oq,h6,h7⟩:=hL1 p h2
      have h8:IS o' oq:=by
        rcases h4 with rfl | h4
        · exact KN h7
        · exact(KN h4).trans (KN h7)
      subst h3
      refine .inl ⟨oq,h6,h8,?_⟩
      have:=A8w.1 c5 p h2
      simp only[A9X]at this
      exact this.imp id fun h=>A8z h
    | false =>
      rw[KH hl]at ho
      have hin:i<r.n0:=by
        rcases A8N i s.next with h | h
        · omega
        · rw[(hf i h).2]at ho;cases ho
      cases hl0:Fk r.L0 i with
      | false=>exact .inr ⟨hin,rfl,ho⟩
      | true =>
        obtain⟨o0,h1⟩:=IZ hl0
        obtain⟨_,_,o',h2,h3,_⟩:=sub0 i o0 h1
        rw[ho]at h2
        injection h2 with h2
        subst h2
        have:=A8w.1 c7 (i,o0) (IY h1)
        simp only[A9X,hl]at this
        rcases this with h | h | h
        · cases h
        · obtain⟨j,hj,he⟩:=List.any_eq_true.1 h
          have:=A8R he
          subst this
          exact absurd hj hD
        · split at h
          · rename_i oq hoq;exact .inl ⟨oq,hoq,h3.symm.trans (KN h),.inl rfl⟩
          · cases h
  have back:∀i rb,i<r.n0→ρ' i=some rb→ρ i=some rb:=fun i rb hin hr=>by
    cases h:ρ i with
    | none=>rw[k3.fresh i h (.inl hin)]at hr;cases hr
    | some rb'=>have:=k3.le _ _ h;rw[hr]at this;exact this.symm▸rfl
  have notOwned:∀i o ri,s.heap.get i=some o→Fk r.L0 i=false→ρ i=some ri→¬ Hg ρ ⟨r.n0,Ft r.L0⟩ ri.b:=by
    rintro i o ri ho hl hri ⟨j,oj,rj,hj,hw,hrj,hb⟩
    obtain⟨_,m1,oj',m2,m3,_⟩:=sub0 j oj hj
    obtain⟨b1,b2,_⟩:=m3.ok (P:=P)
    have hne:i≠j:=fun e=>by rw[e,m1]at hl;cases hl
    have hpar:=(hi.sep i j o oj' ri rj hne ho m2 hri hrj hb.symm (by rw[← b1];exact hw)).1
    rw[← b2]at hpar
    have:=A8w.1 c8 (j,oj) (IY hj)
    simp only[hpar]at this
    rw[this]at hl
    cases hl
  have owned0:∀b,Hg ρ ⟨r.n0,Ft r.L0⟩ b→Hg ρ s b:=by
    rintro b ⟨j,oj,rj,hj,hw,hrj,hb⟩
    obtain⟨_,_,oj',m2,m3,_⟩:=sub0 j oj hj
    exact⟨j,oj',rj,m2,by rw[← (m3.ok (P:=P)).1];exact hw,hrj,hb⟩
  have ownedQ:∀i oq rb,q.heap.get i=some oq→wr oq=true→ρ' i=some rb→rb.b<w.heap.size→Hg ρ ⟨r.n0,Ft r.L0⟩ rb.b:=fun i oq rb ho hw hr hlt=>by
    rcases k3.own rb.b ⟨i,oq,rb,ho,hw,hr,rfl⟩with h | h
    · exact h
    · omega
  refine⟨⟨fun i o rb ho hr=>?_,k2.lt,fun i j oi oj ri rj hne hoi hoj hri hrj hb hw=>?_,fun i o g ho hg=>?_⟩,?_⟩
  · rcases cls i o ho with ⟨oq, h1, h2, _⟩ | ⟨h1, h2, h3⟩
    · exact h2.ok.2.2.2 (k2.obj i oq rb h1 hr)
    · have hr0:=back i rb h1 hr
      exact(hi.obj i o rb h3 hr0).mono k3.le (k3.keep rb.b (hi.lt i rb hr0) (notOwned i o rb h3 h2 hr0))
  · rcases cls i oi hoi with ⟨oqi, h1, h2, h2'⟩ | ⟨h1, h2, h3⟩
    · rcases cls j oj hoj with ⟨oqj, m1, m2, _⟩ | ⟨m1, m2, m3⟩
      · obtain ⟨a1, a2, _⟩ := h2.ok (P := P)
        obtain⟨b1,b2,_⟩:=m2.ok (P:=P)
        rw[b1]at hw
        rw[a1,b2]
        exact k2.sep i j oqi oqj ri rj hne h1 m1 hri hrj hb hw
      · have hrj0 := back j rj m1 hrj
        have hno:=notOwned j oj rj m3 m2 hrj0
        have npar:∀k,Fk r.L0 k=true→Ih oj≠some k:=fun k hk e=>by
          have:=QN hall m3
          rw[show 1 * j+0=j from by omega,m2]at this
          simp[e,hk]at this
        have hbl:ri.b<w.heap.size:=by rw[hb];exact hi.lt j rj hrj0
        rcases h2' with h2' | h2'
        · obtain ⟨o0, hh⟩ := IZ         h2'
          obtain⟨g1,_,oi',g2,_⟩:=sub0 i o0 hh
          exact absurd (hi.sep i j oi' oj ri rj hne g2 m3 (back i ri g1 hri) hrj0 hb hw).1 (npar i h2')
        · have hri0:ρ i=none:=(hf i (by omega)).1
          rcases k3.blk i ri hri hri0 with h | ⟨j0,o0,rj0,q1,q2,q3⟩
          · omega
          · obtain⟨_,q4,oj0,q5,q6,_⟩:=sub0 j0 o0 q1
            have hne0:j0≠j:=fun e=>by rw[e,m2]at q4;cases q4
            exact absurd (hi.sep j0 j oj0 oj rj0 rj hne0 q5 m3 q2 hrj0 (q3.trans hb) hw).1 (npar j0 q4)
    · have hri0:=back i ri h1 hri
      rcases cls j oj hoj with⟨oqj,m1,m2,_⟩ | ⟨m1,m2,m3⟩
      · rw[(m2.ok (P:=P)).1]at hw
        have:=ownedQ j oqj rj m1 hw hrj (by rw[← hb];exact hi.lt i ri hri0)
        rw[← hb]at this
        exact absurd this (notOwned i oi ri h3 h2 hri0)
      · exact hi.sep i j oi oj ri rj hne h3 m3 hri0 (back j rj m1 hrj) hb hw
  · rcases cls i o ho with ⟨oq, h1, h2, _⟩ | ⟨h1, h2, h3⟩
    · rw[(h2.ok (P:=P)).2.2.1]at hg
      exact k2.glb i oq g h1 hg
    · obtain⟨rb,h4⟩:=hi.glb i o g h3 hg
      exact⟨rb,k3.le _ _ h4⟩
  · refine ⟨k3.le, fun i h hor => k3.fresh i h ?_, by rw [hn1, hn0]; exact hn01, k3.size, k3.os, k3.tape, k3.output, fun b hb ho => k3.keep b hb fun h => ho (owned0 b h), fun b hb => ?_, fun i h hor => ?_, fun i rb hr h0 => ?_, fun i o rb ho h0 => ?_⟩
    · rw[hn1,hn0]at hor
      exact hor.imp id fun h=>A8Z hq1 h
    · obtain⟨i,o,rb,ho,hw,hr,hb⟩:=hb
      rcases cls i o ho with⟨oq,h1,h2,_⟩ | ⟨h1,h2,h3⟩
      · rw [(h2.ok (P := P)).1] at hw
        rcases k3.own b ⟨i,oq,rb,h1,hw,hr,hb⟩with h | h
        · exact .inl (owned0 b h)
        · exact .inr h
      · exact .inl ⟨i,o,rb,h3,hw,back i rb h1 hr,hb⟩
    · rw [hn1, hn0] at hor
      rw[hget]
      have hD:i ∉ r.D:=fun hD=>by
        have:=A8w.1 c6 i hD
        simp only[A9W,Option.isNone_iff_eq_none]at this
        obtain⟨d1,d2,_⟩:=this
        obtain⟨o0,hh⟩:=IZ d1
        have hin:=(sub0 i o0 hh).1
        have:=k3.unborn i h (.inl hin)
        rw[d2]at this
        have hh':(⟨r.n0,Ft r.L0⟩:CO).heap.get i=some o0:=hh
        rw[hh']at this
        cases this
      rw[if_neg hD]
      cases hl:Fk r.L1 i with
      | false=>exact KH hl
      | true =>
        obtain⟨o1,h1⟩:=Tk.1 hl
        have hlt:=(hL1 _ h1).1
        have hlt:i<r.n1:=hlt
        have hin:i<r.n0:=by omega
        have hl0:Fk r.L0 i=true:=by
          have:=A8w.1 c5 _ h1
          simp only[A9X]at this
          rcases this with h' | h'
          · exact h'
          · have:=A8z h';omega
        obtain⟨o0,hh⟩:=IZ hl0
        obtain⟨_,_,o,g2,g3,_⟩:=sub0 i o0 hh
        have hq:=k3.unborn i h (.inl hin)
        have hh':(⟨r.n0,Ft r.L0⟩:CO).heap.get i=some o0:=hh
        rw[hh']at hq
        rw[g2]
        refine UL g2 fun p hp hpi=>?_
        obtain⟨_,oq,m1,m2⟩:=hL1 p hp
        rw[hpi,hq]at m1
        injection m1 with m1
        subst m1
        exact(g3.symm.trans (KN m2).symm).sameO m2
    · rcases k3.blk i rb hr h0 with h | ⟨j0, o0, rj0, q1, q2, q3⟩
      · exact .inl h
      · obtain⟨_,_,oj0,q5,_⟩:=sub0 j0 o0 q1
        exact .inr ⟨j0,oj0,rj0,q5,q2,q3⟩
    · rcases cls i o ho with ⟨oq, h1, h2, h3⟩ | ⟨h1, h2, h3⟩
      · obtain ⟨o0, q1⟩ := k3.dom i oq rb h1 h0
        obtain⟨_,_,o',q5,_⟩:=sub0 i o0 q1
        exact⟨o',q5⟩
      · exact⟨o,h3⟩
end
end Go.Proofs.YtoaaclpjkelofaaGreatDoor.Am
set_option linter.all false
set_option maxRecDepth 100000
namespace Go.Proofs.YtoaaclpjkelofaaGreatDoor.Am
open Go Go.Proofs
noncomputable section
open Tryz
def HX:List AV:=[.bool false,.slice none 0 (some 0),.slice none 0 (some 0),.slice none 0 (some 0),.slice none 0 (some 0)]
def PA:Cg:=R 84 5 false HX
theorem iH:Cd prog 168 1 (zipIdx [0] [.agg HX])=some PA:=by kernel_rfl
def A6A:CO:=frz 1 (CT.set .leaf 0 PA)
def A3j (r:Option (AV×CO)):Bool:=match r with
 | some (.agg [.bool false,.slice none 0 (some 0),.slice (some (i,0)) 1 none,.slice none 0 (some 0),.slice none 0 (some 0)],s)=>Nat.blt 0 i && (match s.heap.get i with
  | some (.row r)=>Nat.beq r.n 1 && (FL r.mode && (Nat.beq r.sz 1 && (Nat.beq r.elem 185 && (match r.c.take 0 1 with
   | some [v]=>IG v (A3f 1)
   | _=>false))))
  | _=>false)
 | _=>false
theorem uP{c:Option (AV×CO)}(h:A3j c=true):∃i s r,c=some (.agg [.bool false,.slice none 0 (some 0),.slice (some (i,0)) 1 none,.slice none 0 (some 0),.slice none 0 (some 0)],s)∧s.heap.get i=some (.row r)∧FL r.mode=true∧uW 0 s (.slice (some (i,0)) 1 none) [1]:=by
 unfold A3j at h
 split at h<;>first | (cases h;done) | skip
 rename_i i2 s2
 simp only[A9W,A8Y]at h
 obtain⟨hi2,hrow⟩:=h
 split at hrow<;>first | (cases hrow;done) | skip
 rename_i r2 hr2
 simp only[A9W]at hrow
 obtain⟨q1,q2,q3,q4,q5⟩:=hrow
 split at q5<;>first | (cases q5;done) | skip
 rename_i v2 hv2
 have hv2e:=HM q5
 subst hv2e
 refine⟨i2,s2,r2,rfl,hr2,q2,.inr ⟨by simp,i2,rfl,A8T _,r2,hr2,⟨by rw[A8R q1];rfl,fun k u hu=>?_⟩,q2,A8R q3,A8R q4⟩⟩
 have e:r2.c.take 0 1=(match r2.c.get 0 with | none=>none | some v=>some [v]):=by
  show @Option.rec AV (fun _=>Option (List AV)) none (fun v=>@Option.rec (List AV) (fun _=>Option (List AV)) none (fun l=>some (v::l)) (some [])) (r2.c.get 0)=_
  cases r2.c.get 0<;>rfl
 rw[e]at hv2
 cases hg0:r2.c.get 0 with
 | none=>rw[hg0]at hv2;cases hv2
 | some x =>
  rw[hg0]at hv2
  injection hv2 with hv2
  injection hv2 with hv2 _
  subst hv2
  cases k with
  | zero=>rw[hg0];exact hu
  | succ k=>cases hu
theorem A6l:A3j ((FI (A8D prog) 100000).call 104 [.slice (some (0,0)) 1 (some 1)] A6A)=true:=by kernel_rfl
def Tz (s:CO):List AV→Option (AV×CO)
 | [.slice (some (j,0)) 1 (some 1)]=>match s.heap.get j with
  | some o=>CU (sameO o PA) (some (.agg [.bool false,.slice none 0 (some 0),(aQ s [1]).1,.slice none 0 (some 0),.slice none 0 (some 0)],(aQ s [1]).2))
  | none=>none
 | _=>none
section
variable{ρ:DV}{s:CO}{w:World}
theorem uA{f:FuncId}{xs:List AV}{xs':Array Value}(h:DU prog ρ s w){ρ0:DV}{n0:Nat}{t0:CT Cg}(h0:DU prog ρ0 (frz n0 t0) w)(hf0:DB ρ0 (frz n0 t0))(hxs:Cb ρ0 xs xs'.toList){n:Nat}{v0:AV}{s1:CO}
  (hrun:(FI (A8D prog) n).call f xs (frz n0 t0)=some (v0,s1)) {Q:Ending→World→Prop}
  (hQ:∀ρ' v' w',Cc ρ' v0 v'→DU prog ρ' s1 w'→DU prog ρ s w'→Fr ρ s w ρ s w'→(∀i o rb,s1.heap.get i=some o→wr o=true→ρ' i=some rb→w.heap.size≤rb.b)→Q (.returned v') w'):
  (∃fn c,prog.funcs[f]? = some fn∧fn.body=some c)∧CallsIn Fence.wide 0 prog f xs' w Q:=by
 have hcall:=(A3r Ff (EI Er) rfl (pG prog) n).call ρ0 (frz n0 t0) w f xs v0 s1 xs' hrun h0 hf0 hxs
 refine⟨hcall.1,CallsIn.mono hcall.2 ?_⟩
 intro e w' he
 cases e with
 | panicked c=>exact he.elim
 | outgrown=>exact he.elim
 | returned v' =>
  obtain⟨ρ',k1,k2,k3⟩:=he
  obtain⟨g1,g2⟩:=h.grown (w1:=w') ⟨k3.os,k3.tape,k3.output,k3.size,fun b hb _=>k3.keep b hb (OV prog _ _ b)⟩
  refine hQ ρ' v' w' k1 k2 g1 g2 fun i o rb hi hwr hr=>?_
  rcases k3.own rb.b ⟨i,o,rb,hi,hwr,hr,rfl⟩with h' | h'
  ·exact absurd h' (OV prog _ _ _)
  ·exact h'
theorem oP{xs:List AV}{xs':Array Value}{v:AV}{s1:CO}(h:DU prog ρ s w)(hf:DB ρ s)(hs:Tz s xs=some (v,s1))(hxs:Cb ρ xs xs'.toList):
    (∃fn c,prog.funcs[104]? = some fn∧fn.body=some c)∧CallsIn Fence.wide 0 prog 104 xs' w (Ey prog ρ s w v s1):=by
  unfold Tz at hs
  split at hs<;>first | (cases hs;done) | skip
  rename_i j
  split at hs<;>first | (cases hs;done) | skip
  rename_i o ho
  obtain⟨hsame,hs⟩:=CM hs
  injection hs with hs
  injection hs with e1 e2
  obtain⟨lx⟩:=xs'
  cases hxs with
  | cons hx hr =>
  cases hr with
  | nil =>
  cases hx with
  | @slice _ _ _ _ rb hρ hl =>
  have hobj:=h.obj j o rb ho hρ
  have hz:Dr ρ w { elem:=84,sz:=5,n:=5,c:=Vw HX,spare:=false,mode:=.own,par:=none,bytes:=true } rb:=(KN hsame).symm.ok.2.2.2 hobj
  have hcl:∀k u,(Vw HX).get k=some u→JZ u=true:=fun k u hk=>by
    have:HX[k]? = some u:=by
      unfold Vw at hk
      rw[CT.get_fill]at hk
      split at hk
      · simpa using hk
      · rw[CT.get_leaf]at hk;cases hk
    match k,this with
    | 0,h=>injection h with h;subst h;rfl
    | 1,h=>injection h with h;subst h;rfl
    | 2,h=>injection h with h;subst h;rfl
    | 3,h=>injection h with h;subst h;rfl
    | 4,h=>injection h with h;subst h;rfl
  let ρ0:DV:=fun i=>if i=0 then some rb else none
  have hg:∀i x,(frz 1 (CT.set .leaf 0 PA)).heap.get i=some x→i=0∧x=.row { elem:=84,sz:=5,n:=5,c:=Vw HX,spare:=false,mode:=.ro,par:=none,bytes:=true }:=fun i x hx=>by
    obtain⟨o',h1,h2⟩:=NK hx
    rw[CT.get_set]at h1
    split at h1
    · rename_i hi
      injection h1 with h1
      subst h1
      injection h2 with h2
      exact⟨hi,h2.symm⟩
    · rw[CT.get_leaf]at h1;cases h1
  have h0:DU prog ρ0 A6A w:=by
    refine⟨fun i x rb' hx hr=>?_,fun i rb' hr=>?_,fun i k oi ok ri rk hne hi hk _ _ _ _=>absurd ((hg i oi hi).1.trans (hg k ok hk).1.symm) hne,fun i x g hx hgo=>?_⟩
    · obtain⟨rfl,rfl⟩:=hg i x hx
      have hr':some rb=some rb':=hr
      injection hr' with hr'
      subst hr'
      show Dr ρ0 w _ rb
      exact⟨fun k u hk hu=>by
        obtain⟨v',q1,q2⟩:=hz.cells k u hk hu
        exact⟨v',q1,Ek (hcl k u hu) q2⟩,hz.le,hz.sz,hz.tight,fun hm=>absurd rfl hm,hz.base,(fun g hg=>by cases hg),fun p hp=>by cases hp⟩
    · have hr':(if i=0 then some rb else none)=some rb':=hr
      split at hr'
      · injection hr' with hr';subst hr';exact h.lt j rb hρ
      · cases hr'
    · obtain⟨_,rfl⟩:=hg i x hx
      cases hgo
  have hf0:DB ρ0 A6A:=fun i hi=>by
    have hi':1≤i:=hi
    refine⟨if_neg (by omega),?_⟩
    cases hx:A6A.heap.get i with
    | none=>rfl
    | some x=>have:=(hg i x hx).1;omega
  obtain⟨i2,s2,r2,hcr,hr2,q2,hslot⟩:=uP A6l
  refine uA h h0 hf0 (xs:=[.slice (some (0,0)) 1 (some 1)]) (.cons (.slice (ρ:=ρ0) (rb:=rb) (if_pos rfl) hl) .nil) hcr fun ρ' v' w' hv hi hs0 hfr hge=>?_
  cases hv with
  | agg hv =>
  rename_i cs'
  obtain⟨lc⟩:=cs'
  cases hv with
  | cons a0 hv =>
  cases hv with
  | cons a1 hv =>
  cases hv with
  | cons a2 hv =>
  cases hv with
  | cons a3 hv =>
  cases hv with
  | cons a4 hv =>
  cases hv
  obtain⟨ρ1,b1,b2,b3,b4,b5,b6⟩:=pZ (w0:=w) hslot hi a2 (fun i o rb _ hio hwo hr=>hge i o rb hio hwo hr) hs0 (hf.step hfr) hfr (fun i rb hsl hr j oj rj hj hrj=>by
    injection hsl with hsl
    subst hsl
    have h1:=hge i2 _ rb hr2 q2 hr
    have h2:=h.lt j rj hrj
    omega)
  subst e1;subst e2
  exact⟨ρ1,.agg (.cons (Ek rfl a0) (.cons (Ek rfl a1) (.cons b5 (.cons (Ek rfl a3) (.cons (Ek rfl a4) .nil))))),b1,b3⟩
end
end
end Go.Proofs.YtoaaclpjkelofaaGreatDoor.Am
set_option linter.all false
namespace Go.Proofs.YtoaaclpjkelofaaGreatDoor.Am
open Go Go.Proofs
noncomputable section
open Tryz
def pA:Gl:=Lr tH (Lr (TJ 59 fun xs s=>Ma s xs) (Lr (TJ 85 fun xs s=>KQ s xs) (Lr (TJ 73 fun xs s=>KP s xs) (Lr (TJ 66 fun xs s=>Ml s xs) (Lr (TJ 104 fun xs s=>Tz s xs) (TJ 86 fun xs s=>LA s xs))))))
theorem dX:Du prog pA:=EW dW (EW (GR fun ρ s w xs v s1 xs' hc hi hf ha=>⟨⟨_,_,func59,rfl⟩,fR hi hc ha⟩)
 (EW (GR fun ρ s w xs v s1 xs' hc hi hf ha=>⟨⟨_,_,func85,rfl⟩,Ua hi hc ha⟩)
  (EW (GR fun ρ s w xs v s1 xs' hc hi hf ha=>⟨⟨_,_,func73,rfl⟩,UZ hi hc ha⟩) (EW (GR fun ρ s w xs v s1 xs' hc hi hf ha=>⟨⟨_,_,func66,rfl⟩,UN hi hc ha⟩)
   (EW (GR fun ρ s w xs v s1 xs' hc hi hf ha=>oP hi hf hc ha) (GR fun ρ s w xs v s1 xs' hc hi hf ha=>⟨⟨_,_,func86,rfl⟩,Ts hi hc ha⟩))))))
def Jw:List (List Nat×List AV):=[
 ([110,117,108,108],[.int .i64 0,.bool false,.str [],.str [],.slice none 0 (some 0),.slice none 0 (some 0),.int .i64 0]),
 ([116,114,117,101],[.int .i64 1,.bool true,.str [],.str [],.slice none 0 (some 0),.slice none 0 (some 0),.int .i64 0]),
 ([102,97,108,115,101],[.int .i64 1,.bool false,.str [],.str [],.slice none 0 (some 0),.slice none 0 (some 0),.int .i64 0]),
 ([48],[.int .i64 2,.bool false,.str [48],.str [],.slice none 0 (some 0),.slice none 0 (some 0),.int .i64 0]),
 ([49],[.int .i64 2,.bool false,.str [49],.str [],.slice none 0 (some 0),.slice none 0 (some 0),.int .i64 0]),
 ([45,49],[.int .i64 2,.bool false,.str [45,49],.str [],.slice none 0 (some 0),.slice none 0 (some 0),.int .i64 0]),
 ([50],[.int .i64 2,.bool false,.str [50],.str [],.slice none 0 (some 0),.slice none 0 (some 0),.int .i64 0]),
 ([53],[.int .i64 2,.bool false,.str [53],.str [],.slice none 0 (some 0),.slice none 0 (some 0),.int .i64 0]),
 ([51],[.int .i64 2,.bool false,.str [51],.str [],.slice none 0 (some 0),.slice none 0 (some 0),.int .i64 0]),
 ([34,97,34],[.int .i64 3,.bool false,.str [],.str [97],.slice none 0 (some 0),.slice none 0 (some 0),.int .i64 0]),
 ([34,98,34],[.int .i64 3,.bool false,.str [],.str [98],.slice none 0 (some 0),.slice none 0 (some 0),.int .i64 0]),
 ([34,99,34],[.int .i64 3,.bool false,.str [],.str [99],.slice none 0 (some 0),.slice none 0 (some 0),.int .i64 0]),
 ([40,100,105,99,116,41],[.int .i64 4,.bool false,.str [],.str [],.slice none 0 (some 0),.slice none 0 (some 0),.int .i64 0])]
def SX:List Row:=[
 ⟨26,[.agg [.int .i64 0,.bool false,.str [],.str [],.slice none 0 (some 0),.slice none 0 (some 0),.int .i64 0]],.bool true⟩,
 ⟨27,[.agg [.int .i64 0,.bool false,.str [],.str [],.slice none 0 (some 0),.slice none 0 (some 0),.int .i64 0]],.str [110,117,108,108]⟩,
 ⟨26,[.agg [.int .i64 1,.bool true,.str [],.str [],.slice none 0 (some 0),.slice none 0 (some 0),.int .i64 0]],.bool true⟩,
 ⟨27,[.agg [.int .i64 1,.bool true,.str [],.str [],.slice none 0 (some 0),.slice none 0 (some 0),.int .i64 0]],.str [116,114,117,101]⟩,
 ⟨26,[.agg [.int .i64 1,.bool false,.str [],.str [],.slice none 0 (some 0),.slice none 0 (some 0),.int .i64 0]],.bool true⟩,
 ⟨27,[.agg [.int .i64 1,.bool false,.str [],.str [],.slice none 0 (some 0),.slice none 0 (some 0),.int .i64 0]],.str [102,97,108,115,101]⟩,
 ⟨26,[.agg [.int .i64 2,.bool false,.str [48],.str [],.slice none 0 (some 0),.slice none 0 (some 0),.int .i64 0]],.bool true⟩,
 ⟨27,[.agg [.int .i64 2,.bool false,.str [48],.str [],.slice none 0 (some 0),.slice none 0 (some 0),.int .i64 0]],.str [48]⟩,
 ⟨26,[.agg [.int .i64 2,.bool false,.str [49],.str [],.slice none 0 (some 0),.slice none 0 (some 0),.int .i64 0]],.bool true⟩,
 ⟨27,[.agg [.int .i64 2,.bool false,.str [49],.str [],.slice none 0 (some 0),.slice none 0 (some 0),.int .i64 0]],.str [49]⟩,
 ⟨26,[.agg [.int .i64 2,.bool false,.str [45,49],.str [],.slice none 0 (some 0),.slice none 0 (some 0),.int .i64 0]],.bool true⟩,
 ⟨27,[.agg [.int .i64 2,.bool false,.str [45,49],.str [],.slice none 0 (some 0),.slice none 0 (some 0),.int .i64 0]],.str [45,49]⟩,
 ⟨26,[.agg [.int .i64 2,.bool false,.str [50],.str [],.slice none 0 (some 0),.slice none 0 (some 0),.int .i64 0]],.bool true⟩,
 ⟨27,[.agg [.int .i64 2,.bool false,.str [50],.str [],.slice none 0 (some 0),.slice none 0 (some 0),.int .i64 0]],.str [50]⟩,
 ⟨26,[.agg [.int .i64 2,.bool false,.str [53],.str [],.slice none 0 (some 0),.slice none 0 (some 0),.int .i64 0]],.bool true⟩,
 ⟨27,[.agg [.int .i64 2,.bool false,.str [53],.str [],.slice none 0 (some 0),.slice none 0 (some 0),.int .i64 0]],.str [53]⟩,
 ⟨26,[.agg [.int .i64 2,.bool false,.str [51],.str [],.slice none 0 (some 0),.slice none 0 (some 0),.int .i64 0]],.bool true⟩,
 ⟨27,[.agg [.int .i64 2,.bool false,.str [51],.str [],.slice none 0 (some 0),.slice none 0 (some 0),.int .i64 0]],.str [51]⟩,
 ⟨26,[.agg [.int .i64 3,.bool false,.str [],.str [97],.slice none 0 (some 0),.slice none 0 (some 0),.int .i64 0]],.bool true⟩,
 ⟨27,[.agg [.int .i64 3,.bool false,.str [],.str [97],.slice none 0 (some 0),.slice none 0 (some 0),.int .i64 0]],.str [34,97,34]⟩,
 ⟨26,[.agg [.int .i64 3,.bool false,.str [],.str [98],.slice none 0 (some 0),.slice none 0 (some 0),.int .i64 0]],.bool true⟩,
 ⟨27,[.agg [.int .i64 3,.bool false,.str [],.str [98],.slice none 0 (some 0),.slice none 0 (some 0),.int .i64 0]],.str [34,98,34]⟩,
 ⟨26,[.agg [.int .i64 3,.bool false,.str [],.str [99],.slice none 0 (some 0),.slice none 0 (some 0),.int .i64 0]],.bool true⟩,
 ⟨27,[.agg [.int .i64 3,.bool false,.str [],.str [99],.slice none 0 (some 0),.slice none 0 (some 0),.int .i64 0]],.str [34,99,34]⟩,
 ⟨26,[.agg [.int .i64 4,.bool false,.str [],.str [],.slice none 0 (some 0),.slice none 0 (some 0),.int .i64 0]],.bool true⟩,
 ⟨27,[.agg [.int .i64 4,.bool false,.str [],.str [],.slice none 0 (some 0),.slice none 0 (some 0),.int .i64 0]],.str [40,100,105,99,116,41]⟩]
def A0o (r:Row):Bool:=J2 r.args && JZ r.res && YA r.res ((FI ⟨prog,pA⟩ 100000).call r.f r.args (iO 1 FE))
theorem gZ:SX.all A0o=true:=by kernel_rfl
theorem pp:∀r∈SX,J2 r.args=true∧JZ r.res=true∧YA r.res ((FI ⟨prog,pA⟩ 100000).call r.f r.args (iO 1 FE))=true:=by
 intro r hr
 have:=A8w.1 gZ r hr
 unfold A0o at this
 simp only[A9W]at this
 exact⟨this.1.1,this.1.2,this.2⟩
def NZ:Gl:=Vn 1 FE [26,27] SX
theorem aJ:Du prog NZ:=gD Ff (EI Er) rfl dX (by kernel_rfl) pp
def Ig:Gl:=Lr NZ pA
theorem tJ:Du prog Ig:=EW aJ dX
inductive Tm where
 | var (id:Int)
 | bnd (i:Int)
 | con (n:Nat)
 | sel (d k:Tm)
 | upd (d k a:Tm)
 deriving DecidableEq
namespace Tm
def kids:Tm→List Tm
 | sel d k=>[d,k]
 | upd d k a=>[d,k,a]
 | _=>[]
def kind:Tm→Int
 | var _=>0
 | bnd _=>1
 | con _=>2
 | sel ..=>3
 | upd ..=>4
def id:Tm→Int
 | var i=>i
 | bnd i=>i
 | _=>0
def ktext:Tm→List Nat
 | con n=>(Jw.getD n ([],[])).1
 | _=>[]
def nullC:List AV:=[.int .i64 0,.bool false,.str [],.str [],.slice none 0 (some 0),.slice none 0 (some 0),.int .i64 0]
def cells:Tm→List AV
 | con n=>(Jw.getD n ([],nullC)).2
 | _=>nullC
def ok:Tm→Prop
 | var i=>i64 i
 | bnd i=>0≤i∧i64 i
 | con n=>n<13
 | _=>True
def sz:Tm→Nat
 | sel d k=>min (min (1+d.sz) 4097+k.sz) 4097
 | upd d k a=>min (min (min (1+d.sz) 4097+k.sz) 4097+a.sz) 4097
 | _=>1
def has(x:Int):Tm→Bool
 | var i=>decide (i=x)
 | sel d k=>d.has x || k.has x
 | upd d k a=>d.has x || k.has x || a.has x
 | _=>false
theorem sz_pos:∀t:Tm,1≤t.sz∧t.sz≤4097
 | var _ | bnd _ | con _=>by simp[sz]
 | sel d k=>by have:=sz_pos d;have:=sz_pos k;simp only[sz];omega
 | upd d k a=>by have:=sz_pos d;have:=sz_pos k;have:=sz_pos a;simp only[sz];omega
end Tm
structure QI(S:List Tm):Prop where
 nd:S.Nodup
 cl:∀ (i:Nat) (t:Tm),S[i]? = some t→∀k∈t.kids,∃j:Nat,j<i∧S[j]? = some k
 ok:∀t∈S,t.ok
def ix(S:List Tm)(t:Tm):Nat:=S.idxOf t
theorem JL{S:List Tm}{t:Tm}(h:t∈S):S[ix S t]? = some t:=by
 have hl:=A9Q h
 rw[ix,A8O hl,List.getElem_idxOf hl]
theorem NR{S:List Tm}{t:Tm}(h:t∈S):ix S t<S.length:=A9Q h
theorem Gu{S:List Tm}{t u:Tm}(h:t∈S)(k:u∈S)(e:ix S t=ix S u):t=u:=by
 have h1:=JL h
 rw[e,JL k]at h1
 injection h1 with h1
 exact h1.symm
theorem A0i{S:List Tm}(hn:S.Nodup){i:Nat}{t:Tm}(h:S[i]? = some t):ix S t=i:=by
 have hm:=A8a h
 have h1:=JL hm
 have hi:i<S.length:=by
  rcases A8N i S.length with h' | h'
  ·exact h'
  ·rw[A8W h']at h;cases h
 have hl:=NR hm
 rw[A8O hi]at h
 rw[A8O hl]at h1
 injection h with h
 injection h1 with h1
 exact(List.getElem_inj hn).1 (h1.trans h.symm)
theorem Ob{S:List Tm}{t:Tm}(u:List Tm)(h:t∈S):ix (S++u) t=ix S t:=by
 unfold ix
 rw[A9J,if_pos h]
theorem oD{S:List Tm}{u:Tm}(h:u ∉ S):ix (S++[u]) u=S.length:=by
 unfold ix
 rw[A9J,if_neg h]
 simp
theorem QI.kid{S:List Tm}(h:QI S){t k:Tm}(ht:t∈S)(hk:k∈t.kids):k∈S∧ix S k<ix S t:=by
 obtain⟨j,h1,h2⟩:=h.cl _ _ (JL ht) k hk
 exact⟨A8a h2,by rw[A0i h.nd h2];exact h1⟩
theorem QI.push{S:List Tm}(h:QI S){u:Tm}(hu:u ∉ S)(hk:∀k∈u.kids,k∈S)(ho:u.ok):QI (S++[u]) where
  nd:=by
    rw[List.nodup_append]
    refine⟨h.nd,by simp,fun a ha b hb e=>?_⟩
    simp at hb
    subst hb;subst e
    exact hu ha
  cl := by
    intro i t hi k hkt
    rcases A8N i S.length with hl | hl
    · rw[A8d hl]at hi
      obtain⟨j,h1,h2⟩:=h.cl i t hi k hkt
      exact⟨j,h1,by rw[A8d (by omega)];exact h2⟩
    · rw[A8g hl]at hi
      have:i - S.length=0:=by
        rcases A9D (i - S.length)with e | e
        · exact e
        · rw[A8W (by simp;omega)]at hi;cases hi
      rw[this]at hi
      simp at hi
      subst hi
      have hm:=hk k hkt
      exact⟨ix S k,by have:=NR hm;omega,by rw[A8d (NR hm)];exact JL hm⟩
  ok:=fun t ht=>by
    rcases A8q.1 ht with h' | h'
    · exact h.ok t h'
    · simp at h';subst h';exact ho
def part(S:List Tm)(t:Tm)(k:Nat):Int:=match t.kids[k]? with
 | some u=>(ix S u:Int)
 | none=>0
def Em(S:List Tm)(t:Tm):List AV:=[iv t.kind,iv t.id,iv (part S t 0),iv (part S t 1),iv (part S t 2),.str t.ktext]
theorem LK{S:List Tm}{t:Tm}(u:List Tm)(h:∀k∈t.kids,k∈S)(k:Nat):part (S++u) t k=part S t k:=by
 unfold part
 cases e:t.kids[k]? with
 | none=>rfl
 | some x=>show(ix (S++u) x:Int)=ix S x;rw[Ob u (h x (A8a e))]
theorem I3{S:List Tm}{t:Tm}(u:List Tm)(h:∀k∈t.kids,k∈S):Em (S++u) t=Em S t:=by
 unfold Em
 rw[LK u h,LK u h,LK u h]
theorem mW:∀a,a<13→∀b,b<13→(Jw.getD a ([],[])).1=(Jw.getD b ([],[])).1→a=b:=by decide
theorem oE{S:List Tm}{t u:Tm}(ht:∀k∈t.kids,k∈S)(hu:∀k∈u.kids,k∈S)(ot:t.ok)(ou:u.ok)(h:Em S t=Em S u):t=u:=by
  unfold Em at h
  simp only[List.cons.injEq,A9T,AV.int.injEq,A9S,AV.str.injEq]at h
  obtain⟨h1,h2,h3,h4,h5,h6⟩:=h
  cases t<;>cases u<;>first | (simp[Tm.kind]at h1;done) | skip
  · have e:_=_:=h2
    simp only[Tm.id]at e
    rw[e]
  · have e:_=_:=h2
    simp only[Tm.id]at e
    rw[e]
  · rename_i a b
    rw[mW a ot b ou h6]
  · rename_i a b c d
    have e1:(ix S a:Int)=ix S c:=h3
    have e2:(ix S b:Int)=ix S d:=h4
    rw[Gu (ht a (by simp[Tm.kids])) (hu c (by simp[Tm.kids])) (by omega),Gu (ht b (by simp[Tm.kids])) (hu d (by simp[Tm.kids])) (by omega)]
  · rename_i a b x c d y
    have e1:(ix S a:Int)=ix S c:=h3
    have e2:(ix S b:Int)=ix S d:=h4
    have e3:(ix S x:Int)=ix S y:=h5
    rw[Gu (ht a (by simp[Tm.kids])) (hu c (by simp[Tm.kids])) (by omega),Gu (ht b (by simp[Tm.kids])) (hu d (by simp[Tm.kids])) (by omega),Gu (ht x (by simp[Tm.kids])) (hu y (by simp[Tm.kids])) (by omega)]
theorem fW(S:List Tm)(t u:Tm):∃b,GW (.agg (Em S t)) (.agg (Em S u))=some b∧(b=true↔Em S t=Em S u):=by
 have si:∀a b:Int,Zn a b=decide (a=b):=fun a b=>by rw[Hn];rfl
 have ss:∀a b:List Nat,Fb a b=decide (a=b):=fun a b=>by
  rw[A9e,decide_eq_true_eq];exact Jp
 refine⟨_,by simp only[Em,GW,GW.keysEq,FS,CU,cond_true,Option.bind_some];rfl,?_⟩
 simp only[Em,si,ss,A9W,decide_eq_true_eq,List.cons.injEq,A9T,AV.int.injEq,A9S,AV.str.injEq,Bool.and_true]
def Ga(S:List Tm):List (AV×AV):=S.map fun t=>(.agg (Em S t),iv (ix S t))
theorem RP{S:List Tm}{u:Tm}(hs:QI S)(hu:u ∉ S)(hk:∀k∈u.kids,k∈S):Ga (S++[u])=Ga S++[(.agg (Em S u),iv (S.length:Int))]:=by
  unfold Ga
  rw[A8r]
  congr 1
  · refine List.map_congr_left fun t ht => ?_
    rw[I3 [u] fun k hkk=>(hs.kid ht hkk).1,Ob [u] ht]
  · simp only[A8U,List.map_nil,oD hu,I3 [u] hk]
theorem PH{S:List Tm}(hs:QI S){u:Tm}(hk:∀k∈u.kids,k∈S)(ho:u.ok):∀ (l:List Tm)(i:Nat),(∀t∈l,t∈S) →
    Fw (.agg (Em S u)) (l.map fun t=>(.agg (Em S t),iv (ix S t))) i=some (if u∈l then some (i+l.idxOf u,iv (ix S u))else none)
  | [],i,_=>by simp[Fw]
  | t::l,i,h=>by
    obtain⟨b,hb,hbi⟩:=fW S u t
    simp only[A8U,Fw,hb,Option.bind_some]
    by_cases e:u=t
    · subst e
      rw[hbi.2 rfl]
      simp
    · have hne : Em   S u ≠ Em   S t := fun h' => e (oE       hk (fun k hkk => (hs.kid (h t A8M)                hkk).1) ho (hs.ok t (h t A8M))                h')
      have hbf:b=false:=by
        cases b with
        | false=>rfl
        | true=>exact absurd (hbi.1 rfl) hne
      rw[hbf]
      simp only
      rw[PH hs hk ho l (i+1) fun x hx=>h x (A8J _ hx)]
      by_cases hm:u∈l
      · rw[if_pos hm,if_pos (A8J _ hm)]
        have:(t::l).idxOf u=l.idxOf u+1:=by rw[List.idxOf_cons,beq_false_of_ne (Ne.symm e)];rfl
        rw[this,show i+1+l.idxOf u=i+(l.idxOf u+1)from by omega]
      · rw[if_neg hm,if_neg (by simp[e,hm])]
theorem RL{S:List Tm}(hs:QI S){u:Tm}(hk:∀k∈u.kids,k∈S)(ho:u.ok):Fw (.agg (Em S u)) (Ga S) 0=some (if u∈S then some (ix S u,iv (ix S u))else none):=by
 have:=PH hs hk ho S 0 fun _ h=>h
 rw[A8V]at this
 exact this
def EZ(ks:List Int):List (AV×AV):=ks.map fun k=>(iv k,iv 1)
def FO(ks:List Int)(k:Int):List Int:=if k∈ks then ks else ks++[k]
theorem RK(k:Int):∀ (ks:List Int)(i:Nat),Fw (iv k) (EZ ks) i=some (if k∈ks then some (i+ks.idxOf k,iv 1)else none)
  | [],i=>by simp[Fw,EZ]
  | x::ks,i=>by
    have h1:GW (iv k) (iv x)=some (decide (k=x)):=by simp[GW,FS,CU,Hn];rfl
    show(GW (iv k) (iv x)).bind _=_
    rw[h1,Option.bind_some]
    by_cases e:k=x
    · subst e;simp
    · simp only [e, A9a]
      show Fw (iv k) (EZ ks) (i+1)=_
      rw[RK k ks (i+1)]
      by_cases hm:k∈ks
      · rw[if_pos hm,if_pos (A8J _ hm)]
        have:(x::ks).idxOf k=ks.idxOf k+1:=by rw[List.idxOf_cons,beq_false_of_ne (Ne.symm e)];rfl
        rw[this,show i+1+ks.idxOf k=i+(ks.idxOf k+1)from by omega]
      · rw[if_neg hm,if_neg (by simp[e,hm])]
theorem Pf:∀ (ks:List Int)(i:Nat),setNth (EZ ks) i (iv 1)=EZ ks
 | [],_=>rfl
 | k::ks,0=>rfl
 | k::ks,i+1=>by show(iv k,iv 1)::setNth (EZ ks) i (iv 1)=_;rw[Pf ks i];rfl
theorem UR(ks:List Int)(k:Int):Pp (iv k) (iv 1) (EZ ks)=some (EZ (FO ks k)):=by
 unfold Pp FO
 rw[RK,Option.bind_some]
 by_cases h:k∈ks
 ·rw[if_pos h,if_pos h]
  simp only[Pf]
 ·rw[if_neg h,if_neg h]
  simp[EZ]
theorem Pa:∀ (ms ks:List Int),Om (EZ ms) (EZ ks)=some (EZ (ms.foldl FO ks))
 | [],_=>rfl
 | m::ms,ks=>by
  show(Pp (iv m) (iv 1) (EZ ks)).bind _=_
  rw[UR,Option.bind_some]
  exact Pa ms _
theorem Jt{ks:List Int}(h:ks.Nodup)(k:Int):(FO ks k).Nodup:=by
  unfold FO
  split
  · exact h
  · rename_i hk
    rw[List.nodup_append]
    exact⟨h,by simp,fun a ha b hb e=>by simp at hb;subst hb;subst e;exact hk ha⟩
theorem EU{ks:List Int}{k x:Int}:x∈FO ks k↔x∈ks∨x=k:=by
 unfold FO
 split
 ·rename_i hk
  exact⟨.inl,fun h=>h.elim (fun h=>h) (fun h=>by rw[h];exact hk)⟩
 ·simp
theorem PI:∀ (ms:List Int){ks:List Int},ks.Nodup→(ms.foldl FO ks).Nodup
 | [],_,h=>h
 | m::ms,_,h=>PI ms (Jt h m)
theorem UC{x:Int}:∀ (ms:List Int){ks:List Int},x∈ms.foldl FO ks↔x∈ks∨x∈ms
  | [],_=>by simp
  | m::ms,ks=>by
    rw[A9C,UC ms,EU]
    simp only[A8I]
    constructor
    · rintro ((h | h) | h)
      · exact .inl h
      · exact .inr (.inl h)
      · exact .inr (.inr h)
    · rintro (h | h | h)
      · exact .inl (.inl h)
      · exact .inl (.inr h)
      · exact .inr h
theorem NW:∀ (ms:List Int)(ks:List Int),(ms.foldl FO ks).length≤ks.length+ms.length
 | [],ks=>by simp
 | m::ms,ks=>by
  rw[A9C]
  have:=NW ms (FO ks m)
  have h:(FO ks m).length≤ks.length+1:=by unfold FO;split<;>simp
  simp;omega
end
end Go.Proofs.YtoaaclpjkelofaaGreatDoor.Am
set_option linter.all false
set_option maxRecDepth 100000
namespace Go.Proofs.YtoaaclpjkelofaaGreatDoor.Am
open Go Go.Proofs
noncomputable section
open Tryz
theorem NH(i o:Nat):CL prog 100 (.ptr (some (i,o))) 0=some (.ptr (some (i,o+0))):=by kernel_rfl
theorem dK(i o:Nat):CL prog 100 (.ptr (some (i,o))) 1=some (.ptr (some (i,o+1))):=by kernel_rfl
theorem OJ:GG prog 26=some false:=by kernel_rfl
theorem TD:DZ prog 71=some 16:=by kernel_rfl
theorem A6K:Fe prog 71=some 184:=by kernel_rfl
theorem A4E:GG prog 71=some true:=by kernel_rfl
theorem qX:FV prog 71=some (.agg [(.int .i64 (0)),(.int .i64 (0)),(.int .i64 (0)),(.int .i64 (0)),(.int .i64 (0)),(.str []),(.int .i64 (0)),(.bool false),(.str []),(.str []),(.slice none 0 (some 0)),(.slice none 0 (some 0)),(.int .i64 (0)),(.int .i64 (0)),(.int .i64 (0)),(.map none)]):=by kernel_rfl
theorem OU(i o:Nat):CL prog 71 (.ptr (some (i,o))) 0=some (.ptr (some (i,o+0))):=by kernel_rfl
theorem A3A(cs:List AV):GT prog 71 (.agg cs) 0=some (.agg ((cs.drop 0).take 6)):=by kernel_rfl
theorem A3B(cs:List AV):GT prog 71 (.agg cs) 1=some (.agg ((cs.drop 6).take 7)):=by kernel_rfl
theorem Zq(i o:Nat):CL prog 71 (.ptr (some (i,o))) 2=some (.ptr (some (i,o+13))):=by kernel_rfl
theorem Zr(i o:Nat):CL prog 71 (.ptr (some (i,o))) 3=some (.ptr (some (i,o+14))):=by kernel_rfl
theorem A3C(cs:List AV):GT prog 71 (.agg cs) 3=cs[14]? := by kernel_rfl
theorem nL(i o:Nat):CL prog 71 (.ptr (some (i,o))) 4=some (.ptr (some (i,o+15))):=by kernel_rfl
theorem A6e:DZ prog 98=some 1:=by kernel_rfl
theorem iY:GG prog 98=some false:=by kernel_rfl
theorem A3Z:DZ prog 53=some 6:=by kernel_rfl
theorem A0y:GG prog 53=some true:=by kernel_rfl
theorem OR(i o:Nat):CL prog 53 (.ptr (some (i,o))) 0=some (.ptr (some (i,o+0))):=by kernel_rfl
theorem A2z(cs:List AV):GT prog 53 (.agg cs) 0=cs[0]? := by kernel_rfl
theorem Zp(i o:Nat):CL prog 53 (.ptr (some (i,o))) 1=some (.ptr (some (i,o+1))):=by kernel_rfl
theorem VP(i o:Nat):CL prog 53 (.ptr (some (i,o))) 2=some (.ptr (some (i,o+2))):=by kernel_rfl
theorem A2x(i o:Nat):CL prog 53 (.ptr (some (i,o))) 3=some (.ptr (some (i,o+5))):=by kernel_rfl
theorem A4G:GG prog 97=some false:=by kernel_rfl
theorem A4D:GG prog 69=some false:=by kernel_rfl
theorem qD:DZ prog 34=some 7:=by kernel_rfl
theorem iW:GG prog 34=some true:=by kernel_rfl
theorem A6m:FV prog 34=some (.agg [(.int .i64 (0)),(.bool false),(.str []),(.str []),(.slice none 0 (some 0)),(.slice none 0 (some 0)),(.int .i64 (0))]):=by kernel_rfl
theorem A2v(i o:Nat):CL prog 34 (.ptr (some (i,o))) 0=some (.ptr (some (i,o+0))):=by kernel_rfl
theorem nT(cs:List AV):GT prog 34 (.agg cs) 0=cs[0]? := by kernel_rfl
theorem A2w(i o:Nat):CL prog 34 (.ptr (some (i,o))) 4=some (.ptr (some (i,o+4))):=by kernel_rfl
theorem A6E:GG prog 28=some false:=by kernel_rfl
theorem A3b:DZ prog 9=some 1:=by kernel_rfl
theorem A6q:Fe prog 9=some 16:=by kernel_rfl
theorem qZ:GG prog 9=some false:=by kernel_rfl
def xy:List CK:=[Bo Bi [AE] 1]
def xz:List CK:=[Bo (BX .eql 26) [AC,AY] 2]
def A4x:List CK:=[Bo Bi [AE] 1]
def yA:List CK:=[Bn Bl [AC],Bn (BU 100 0) [AA],Bn (BT 98) [AA],Bn (Bc 98) [AA],Bo Bi [AA] 1]
def A7W:Cr:=⟨1,3,(.seq (.ops xy) (.seq (.seq (.ops xz) (.cond (.var 2)
 (.seq (.ops A4x) .ret)
 .skip)) (.seq (.ops yA) .ret))),[((.var 1),none)]⟩
def A5M:List CK:=[Bo Bi [AE] 2]
def A5N:List CK:=[Bo (BX .eql 26) [AC,AY] 3]
def A6P:List CK:=[Bo Bi [AE] 2]
def A5O:List CK:=[Bn (Be 53 [0,1]) [AE,AB],Bn (Be 34 []) [],Bn (Bh 25) [AC,AF,AA,Ad],Bo Bi [AA] 2]
def c8:Cr:=⟨2,4,(.seq (.ops A5M) (.seq (.seq (.ops A5N) (.cond (.var 3)
 (.seq (.ops A6P) .ret)
 .skip)) (.seq (.ops A5O) .ret))),[((.var 2),none)]⟩
def xe:List CK:=[Bo Bi [AE] 2]
def xf:List CK:=[Bn (Bh 38) [AC,AB],Bn (BV 71 3) [AA],Bo Bi [AA] 2]
def A7S:Cr:=⟨2,3,(.seq (.ops xe) (.seq (.ops xf) .ret)),[((.var 2),none)]⟩
def ut:List CK:=[Bo Bi [Ad] 2]
def uu:List CK:=[Bn (Bh 38) [AC,AB],Bo (Bb 71) [] 3,Bn (BZ 71) [AG,AA]]
def uv:List CK:=[Bn (BU 71 0) [AG],Bn (BU 53 2) [AA],Bn (BU 71 2) [AG],Bn (BT 3) [AA],Bn (.r (DK prog 51 false true false)) [AH,AA],Bn (Bh 39) [AA],Bo Bi [AA] 2]
def A6s:Cr:=⟨2,4,(.seq (.ops ut) (.seq (.ops uu) (.seq (.ops uv) .ret))),[((.var 2),none)]⟩
def wO:List CK:=[Bo Bi [AE] 2]
def wP:List CK:=[Bn (Bh 38) [AC,AB],Bn (BV 71 0) [AA],Bn (BV 53 0) [AA],Bo Bi [AA] 2]
def A7G:Cr:=⟨2,3,(.seq (.ops wO) (.seq (.ops wP) .ret)),[((.var 2),none)]⟩
def A5Q:List CK:=[Bo (Ba 34) [AB] 2,Bo Bi [AE] 3]
def A5R:List CK:=[Bo (BX .eql 26) [AC,AY] 4]
def A6R:List CK:=[Bo Bi [AE] 3]
def A5S:List CK:=[Bn (BT 34) [AD],Bn (Bh 26) [AA],Bn (.p1 (Yu prog Go.UnOp.not)) [AA],Bp AA (BU 34 0) [AD],Bp AF (BT 3) [AA],Bp AH (BX .eql 3) [AA,BM],Bn Bj [AM,An,AA],Bp AA (BU 34 4) [AD],Bp AF (BT 28) [AA],Bp AH (Bc 28) [AA],Bp AM (BX .gtr 3) [AA,AE],Bo Bj [AO,An,AA] 5]
def A6S:List CK:=[Bn (Be 34 []) [],Bn (BZ 34) [AD,AA]]
def A5T:List CK:=[Bn (BT 34) [AD],Bn (BT 34) [AD],Br (Bh 27) [AF] [Bs (BT 34) [AD] AF],Bn (Be 53 [0,3]) [Ax,AA],Bn (Bh 25) [AC,AA,AH,Ad],Bo Bi [AA] 3]
def c9:Cr:=⟨2,6,(.seq (.ops A5Q) (.seq (.seq (.ops A5R) (.cond (.var 4)
 (.seq (.ops A6R) .ret)
 .skip)) (.seq (.seq (.ops A5S) (.cond (.var 5)
 (.ops A6S)
 .skip)) (.seq (.ops A5T) .ret)))),[((.var 3),none)]⟩
def xN:List CK:=[Bo (Bb 34) [] 2]
def xO:List CK:=[Bn (Bh 38) [AC,AB],Bn (BV 71 1) [AA],Bn (BZ 34) [AD,AA]]
def A7O:Cr:=⟨2,3,(.seq (.ops xN) (.seq (.ops xO) .ret)),[((.var 2),some 34)]⟩
def uo:List CK:=[Bo Bi [AE] 3]
def uq:List CK:=[Bo (BX .eql 26) [AC,AY] 4]
def A4d:List CK:=[Bo Bi [AE] 3]
def ur:List CK:=[Bn (Be 53 [0]) [BD],Bn (Be 34 []) [],Bn (Bd 30 2 [0,1]) [AB,AD],Bn (Bh 28) [AC,AA],Bn (Bh 25) [AC,AM,AH,AA],Bo Bi [AA] 3]
def A6r:Cr:=⟨3,5,(.seq (.ops uo) (.seq (.seq (.ops uq) (.cond (.var 4)
 (.seq (.ops A4d) .ret)
 .skip)) (.seq (.ops ur) .ret))),[((.var 3),none)]⟩
def uY:List CK:=[Bo Bi [AE] 4]
def uZ:List CK:=[Bo (BX .eql 26) [AC,AY] 5]
def A4R:List CK:=[Bo Bi [AE] 4]
def ua:List CK:=[Bn (Be 53 [0]) [Az],Bn (Be 34 []) [],Bn (Bd 30 3 [0,1,2]) [AB,AD,AG],Bn (Bh 28) [AC,AA],Bn (Bh 25) [AC,AM,AH,AA],Bo Bi [AA] 4]
def A4H:Cr:=⟨4,6,(.seq (.ops uY) (.seq (.seq (.ops uZ) (.cond (.var 5)
 (.seq (.ops A4R) .ret)
 .skip)) (.seq (.ops ua) .ret))),[((.var 4),none)]⟩
def xg:List CK:=[Bo Bi [Aw] 2]
def xh:List CK:=[Bn (Bh 38) [AC,AB],Bo (Bb 71) [] 3,Bn (BZ 71) [AG,AA]]
def li:List CK:=[Bn (BX .eql 26) [AC,AY],Bp AA (BU 71 3) [AG],Bp AF (BT 3) [AA],Bp AH (BX .gtr 3) [AA,BN],Bo Bj [AM,An,AA] 7]
def xi:List CK:=[Bo Bi [Aw] 2]
def TR:List CK:=[Bo Bi [(BS [40,115,101,116])] 4]
def TS:List CK:=[Bn (BU 71 0) [AG],Bn (BU 53 0) [AA],Bo (BT 3) [AA] 8]
def TT:List CK:=[Bn (BX .eql 3) [AP,AE],Bo Bi [AA] 9]
def xl:List CK:=[Bn (BU 71 0) [AG],Bn (BU 53 1) [AA],Bn (BT 3) [AA],Bn (Bh 59) [AA],Bn (BX .add 9) [(BS [120]),AA],Bo Bi [AA] 2]
def Wx:List CK:=[Bn (BX .eql 3) [AP,AL],Bo Bi [AA] 10]
def xm:List CK:=[Bn (BU 71 0) [AG],Bn (BU 53 1) [AA],Bn (BT 3) [AA],Bn (Bh 59) [AA],Bn (BX .add 9) [(BS [98]),AA],Bo Bi [AA] 2]
def VE:List CK:=[Bn (BX .eql 3) [AP,Ax],Bo Bi [AA] 11]
def lg:List CK:=[Bn (BU 71 0) [AG],Bn (BU 53 3) [AA],Bn (BT 9) [AA],Bo Bi [AA] 2]
def ZK:List CK:=[Bn (BX .eql 3) [AP,BD],Bo Bi [AA] 12]
def lh:List CK:=[Bo Bi [(BS [40,103,101,116])] 4]
def ZL:List CK:=[Bn (Bd 28 1 [0]) [AI],Bo Bi [AA] 5]
def ZM:List CK:=[Bn (BU 71 0) [AG],Bn (BU 53 2) [AA],Bn (BU 71 2) [AG],Bn (BT 3) [AA],Bo (.r (DK prog 51 false true false)) [AH,AA] 13,Bo (Bc 30) [Ao] 14,Bo Bi [AE] 15]
def VF:List CK:=[Bo (BX .lss 3) [Ak,Aa] 16]
def ZN:List CK:=[Bn (BY 30) [Ao,Ak],Bn (BT 3) [AA],Bo Bi [AA] 6]
def ZO:List CK:=[Bn Bi [AK],Bn (Bh 52) [AC,AJ],Bn (Bd 28 1 [0]) [AA],Bn (Bf 28 28) [AH,AA],Bo Bi [AA] 5]
def ZP:List CK:=[Bn (BX .add 3) [Ak,AL],Bo Bi [AA] 15]
def Kr:Ck:=(.seq (.ops VF) (.seq (.cond (.var 16)
 .skip
 (.exit 1)) (.seq (.block 2 (.seq (.ops ZN) (.ops ZO))) (.ops ZP))))
def ZQ:List CK:=[Bn (Bh 86) [AK,BI],Bn (BX .add 9) [AA,BJ],Bo Bi [AA] 2]
def A7T:Cr:=⟨2,17,(.seq (.ops xg) (.seq (.ops xh) (.seq (.seq (.ops li) (.cond (.var 7)
 (.seq (.ops xi) .ret)
 .skip)) (.seq (.ops TR) (.seq (.seq (.ops TS) (.block 0 (.seq (.ops TT) (.cond (.var 9)
 (.seq (.ops xl) .ret)
 (.seq (.ops Wx) (.cond (.var 10)
 (.seq (.ops xm) .ret)
 (.seq (.ops VE) (.cond (.var 11)
 (.seq (.ops lg) .ret)
 (.seq (.ops ZK) (.cond (.var 12)
 (.ops lh)
 .skip)))))))))) (.seq (.ops ZL) (.seq (.seq (.ops ZM) (.block 1 (.loop Kr))) (.seq (.ops ZQ) .ret)))))))),[((.var 2),none)]⟩
def vh:List CK:=[Bo Bi [AY] 0]
def vi:List CK:=[Bn (.mk (fun l=>match l with | []=>(D8 prog 97).bind fun kt=>some (.map kt [],.map) | _=>none)) [],Bn (Be 100 [1]) [AA],Bn (Ba 100) [AA],Bo Bi [AA] 0]
def A6z:Cr:=⟨0,1,(.seq (.ops vh) (.seq (.ops vi) .ret)),[((.var 0),none)]⟩
def vj:List CK:=[Bo (Ba 53) [AB] 4,Bo (Ba 34) [AD] 5,Bo Bi [AE] 6]
def vk:List CK:=[Bn (BU 53 2) [AI],Bn (.r (DK prog 51 false false false)) [AA],Bn (.e (fun s l=>Kx prog s [30,30] l)) [AA,AG]]
def vl:List CK:=[Bn Bl [AC],Bn (BU 100 1) [AA],Bn (BT 97) [AA],Bn (BT 53) [AI],Bn (.r (fun s=>GA (fun m k=>Dy prog s 97 m k true))) [AF,AA],Bn (BW 0) [AA],Bn (BW 1) [AF],Bo Bi [AF] 7,Bo Bi [AA] 8]
def lA:List CK:=[Bo Bi [AP] 11]
def vn:List CK:=[Bo Bi [AN] 6]
def vo:List CK:=[Bn (BT 53) [AI],Bn (BT 34) [AK],Bn (Bc 30) [AG],Bn (.mk (fun l=>match l with | []=>(D8 prog 69).bind fun kt=>some (.map kt [],.map) | _=>none)) [],Bn (Be 71 [0,1,2,3,4]) [AM,AH,AF,AL,AA],Bo (Bb 71) [] 9,Bn (BZ 71) [AT,AA]]
def vp:List CK:=[Bn (BU 53 0) [AI],Bn (BT 3) [AA],Bo (BX .eql 3) [AA,AE] 12]
def vq:List CK:=[Bn (BU 71 4) [AT],Bn (BT 69) [AA],Bn (BU 53 1) [AI],Bn (BT 3) [AA],Bn (.e (fun s=>qa (fun m k x=>DI (EF prog s 69 m k x)))) [AH,AA,AL]]
def lB:List CK:=[Bo Bi [AG] 13,Bo (Bc 30) [Ao] 14,Bo Bi [AE] 15]
def lC:List CK:=[Bo (BX .lss 3) [Ak,Aa] 16]
def kq:List CK:=[Bn (BY 30) [Ao,Ak],Bn (BT 3) [AA],Bo Bi [AA] 10]
def kr:List CK:=[Bn (BU 71 3) [AT],Bn (BT 3) [AA],Bn Bl [AC],Bn (BU 100 0) [AA],Bn (BT 98) [AA],Bn (BY 98) [AA,Aj],Bn (BU 71 3) [AA],Bn (BT 3) [AA],Bn (BX .add 3) [AQ,AA],Bn (.p (fun l=>match l with | v::l=>LF false v l | []=>none)) [AA,BO],Bn (BU 71 3) [AT],Bn (BZ 3) [AA,AF]]
def ku:List CK:=[Bn (BU 71 4) [AT],Bn (BT 69) [AA],Bn Bl [AC],Bn (BU 100 0) [AA],Bn (BT 98) [AA],Bn (BY 98) [AA,Aj],Bn (BU 71 4) [AA],Bn (BT 69) [AA],Bn (Bh 53) [AQ,AA]]
def kz:List CK:=[Bn (BX .add 3) [Ak,AL],Bo Bi [AA] 15]
def OL:Ck:=(.seq (.ops lC) (.seq (.cond (.var 16)
 .skip
 (.exit 0)) (.seq (.block 1 (.seq (.ops kq) (.seq (.ops kr) (.ops ku)))) (.ops kz))))
def U1:List CK:=[Bn Bl [AC],Bn (BU 100 0) [AA],Bn (BT 98) [AA],Bn (BT 71) [AT],Bn (Bd 98 1 [0]) [AA],Bn (Bf 98 98) [AH,AA],Bn Bl [AC],Bn (BU 100 0) [AA],Bn (BZ 98) [AA,AH]]
def U2:List CK:=[Bn Bl [AC],Bn (BU 100 1) [AA],Bn (BT 97) [AA],Bn (BT 53) [AI],Bn Bl [AC],Bn (BU 100 0) [AA],Bn (BT 98) [AA],Bn (Bc 98) [AA],Bn (BX .sub 3) [AA,AL],Bn (.e (fun s=>qa (fun m k x=>DI (EF prog s 97 m k x)))) [AQ,AR,AA]]
def U3:List CK:=[Bn Bl [AC],Bn (BU 100 0) [AA],Bn (BT 98) [AA],Bn (Bc 98) [AA],Bn (BX .sub 3) [AA,AL],Bo Bi [AA] 6]
def A7A:Cr:=⟨4,17,(.seq (.ops vj) (.seq (.ops vk) (.seq (.seq (.ops vl) (.seq (.ops lA) (.cond (.var 11)
 (.seq (.ops vn) .ret)
 .skip))) (.seq (.ops vo) (.seq (.seq (.ops vp) (.cond (.var 12)
 (.ops vq)
 .skip)) (.seq (.seq (.ops lB) (.block 0 (.loop OL))) (.seq (.ops U1) (.seq (.ops U2) (.seq (.ops U3) .ret))))))))),[((.var 6),none)]⟩
def vr:List CK:=[Bo Bi [Ad] 2]
def vu:List CK:=[Bn (Bh 61) [AC],Bo Bi [AA] 3]
def vv:List CK:=[Bn (Bh 39) [AB],Bo Bi [AA] 4]
def vw:List CK:=[Bo Bi [AI] 7,Bo (Bc 30) [AN] 8,Bo Bi [AE] 9]
def Wt:List CK:=[Bo (BX .lss 3) [AT,AP] 10]
def cC:List CK:=[Bn (BY 30) [AN,AT],Bn (BT 3) [AA],Bo Bi [AT] 5,Bo Bi [AA] 6]
def cD:List CK:=[Bn (BX .lss 3) [AJ,AE],Bp AA Bi [AJ],Bp AF Bi [AG],Bp AH (BX .geq 3) [AF,AA],Bo Bj [AM,An,AA] 11]
def lE:List CK:=[Bn (Be 34 []) [],Bn (Bh 9) [AC,AA],Bn (BY 30) [AI,AK],Bn (BZ 3) [AA,AF]]
def cE:List CK:=[Bn (BX .add 3) [AT,AL],Bo Bi [AA] 9]
def QW:Ck:=(.seq (.ops Wt) (.seq (.cond (.var 10)
 .skip
 (.exit 0)) (.seq (.block 1 (.seq (.ops cC) (.seq (.ops cD) (.cond (.var 11)
 (.ops lE)
 .skip)))) (.ops cE))))
def lD:List CK:=[Bo Bi [AI] 2]
def A7B:Cr:=⟨2,12,(.seq (.ops vr) (.seq (.ops vu) (.seq (.ops vv) (.seq (.seq (.ops vw) (.block 0 (.loop QW))) (.seq (.ops lD) .ret))))),[((.var 2),none)]⟩
def wW:List CK:=[Bo (Bb 71) [] 2]
def wX:List CK:=[Bn (BX .eql 26) [AC,AY],Bo Bi [AA] 3]
def A4k:List CK:=[Bn (Be 71 []) [],Bn (BZ 71) [AD,AA]]
def wY:List CK:=[Bn (BX .lss 3) [AB,AE],Bp AA Bi [AB],Bp AF Bi [AC],Bp AH Bl [AA],Bp AM (BU 100 0) [AA],Bp AO (BT 98) [AA],Bp AR (Bc 98) [AA],Bp AQ (BX .geq 3) [AR,AA],Bn Bj [AS,An,AA],Bo Bi [AA] 4]
def A4l:List CK:=[Bn (Bh 79) [],Bn (BZ 71) [AD,AA]]
def wZ:List CK:=[Bn Bl [AC],Bn (BU 100 0) [AA],Bn (BT 98) [AA],Bn (BY 98) [AA,AB],Bn (BT 71) [AA],Bn (BZ 71) [AD,AA]]
def A7J:Cr:=⟨2,5,(.seq (.ops wW) (.seq (.block 0 (.seq (.ops wX) (.cond (.var 3)
 (.seq (.ops A4k) .ret)
 (.seq (.ops wY) (.cond (.var 4)
 (.seq (.ops A4l) .ret)
 .skip))))) (.seq (.ops wZ) .ret))),[((.var 2),some 71)]⟩
def lN:List CK:=[Bo Bi [Ad] 1]
def lO:List CK:=[Bo (BX .eql 30) [AC,Ad] 2]
def A4m:List CK:=[Bo Bi [Ad] 1]
def lP:List CK:=[Bn (Bd 30 0 []) [],Bn (Bf 30 30) [AA,AC],Bo Bi [AA] 1]
def A6N:Cr:=⟨1,3,(.seq (.ops lN) (.seq (.seq (.ops lO) (.cond (.var 2)
 (.seq (.ops A4m) .ret)
 .skip)) (.seq (.ops lP) .ret))),[((.var 1),none)]⟩
theorem A1z:CY prog 61=some A7W:=by kernel_rfl
theorem A5Z:CY prog 8=some c8:=by kernel_rfl
theorem A1v:CY prog 51=some A7S:=by kernel_rfl
theorem A1V:CY prog 14=some A6s:=by kernel_rfl
theorem A1j:CY prog 35=some A7G:=by kernel_rfl
theorem A5a:CY prog 9=some c9:=by kernel_rfl
theorem A1r:CY prog 44=some A7O:=by kernel_rfl
theorem A1U:CY prog 13=some A6r:=by kernel_rfl
theorem A1R:CY prog 10=some A4H:=by kernel_rfl
theorem A1w:CY prog 52=some A7T:=by kernel_rfl
theorem A1c:CY prog 24=some A6z:=by kernel_rfl
theorem A1d:CY prog 25=some A7A:=by kernel_rfl
theorem A1e:CY prog 28=some A7B:=by kernel_rfl
theorem A1m:CY prog 38=some A7J:=by kernel_rfl
theorem mV:CY prog 39=some A6N:=by kernel_rfl
end
end Go.Proofs.YtoaaclpjkelofaaGreatDoor.Am
