import Derived.Test.YtknnmidnodeanaaGreatDoorJu25
set_option maxHeartbeats 32000000
set_option maxRecDepth 100000
namespace Go.Proofs.YtknnmidnodeanaaGreatDoor
open Go Go.RowKit Own
open Go.Lib (hid)
theorem contF_at (cs:List Gc):∀(l:List Gc) (i:Nat),(∀j (h:j<l.length),¬(CZ cs l[j].name).getD 0<i+j)→contF cs i l=none
 |[],i,_=>by unfold contF;rfl
 | c::l,i,h=>by
  have h0:¬(CZ cs c.name).getD 0<i:=h 0 (by simp);unfold contF;rw[if_neg h0]
  exact contF_at cs l (i+1) fun j hj=>by
   have:=h (j+1) (by simpa using hj);rw[show i+1+j=i+(j+1) by omega];exact this
theorem contF_hit (cs:List Gc):∀(l:List Gc) (i k:Nat) (hk:k<l.length),(∀j (_:j<k) (h:j<l.length),¬(CZ cs l[j].name).getD 0<i+j)→(CZ cs l[k].name).getD 0<i+k→contF cs i l=some ⟨8,l[k].line,l[k].col⟩
 |[],i,k,hk,_,_=>absurd hk (by simp)
 | c::l,i,0,hk,_,h1=>by
  unfold contF;rw[if_pos (by simpa using h1)];rfl
 | c::l,i,k+1,hk,h,h1=>by
  have h0:¬(CZ cs c.name).getD 0<i:=h 0 (by omega) (by simp);unfold contF;rw[if_neg h0]
  exact contF_hit cs l (i+1) k (by simpa using hk) (fun j hj hj'=>by
   have:=h (j+1) (by omega) (by simpa using hj');rw[show i+1+j=i+(j+1) by omega];exact this) (by rw[show i+1+k=i+(k+1) by omega];exact h1)
theorem contI_in {cs:List Gc}{j:Nat}(h:j<cs.length):contI cs cs[j].name=((CZ cs cs[j].name).getD 0:Nat):=by
 unfold contI
 cases hc:CZ cs cs[j].name with
 |some i=>rfl
 | none=>
  unfold CZ at hc;have:=List.findIdx?_eq_none_iff.1 hc cs[j] (List.getElem_mem h);simp at this
theorem thrsF_app (cs:List Gc):∀(a:List (List Gs)) (b:List (List Gs)),DQ cs (a++b)=(match DQ cs a with | .error f=>(.error f:Except Fl (List Sc)) | .ok s=>(match DQ cs b with | .error f=>(.error f:Except Fl (List Sc)) | .ok q=>.ok (s++q)))
 | [],b=>by
  show DQ cs b=match (.ok []:Except Fl (List Sc))with | .error f=>(.error f:Except Fl (List Sc)) | .ok s=>(match DQ cs b with | .error f=>(.error f:Except Fl (List Sc)) | .ok q=>.ok (s++q))
  cases DQ cs b<;>rfl
 | l::a,b=>by
  have e:∀r,DQ cs (l::r)=(match thrF cs l with | .error f=>(.error f:Except Fl (List Sc)) | .ok s=>(match DQ cs r with | .error f=>(.error f:Except Fl (List Sc)) | .ok q=>.ok (s::q))):=fun r=>rfl;rw[List.cons_append,e,e,thrsF_app cs a b]
  cases thrF cs l with
  |error f=>rfl
  | ok s=>
   cases DQ cs a with
   |error f=>rfl
   |ok q=>cases DQ cs b<;>rfl
theorem thrsF_one (cs:List Gc)(l:List Gs):DQ cs [l]=(match thrF cs l with | .error f=>(.error f:Except Fl (List Sc)) | .ok s=>.ok [s]):=by
 show (match thrF cs l with | .error f=>(.error f:Except Fl (List Sc)) | .ok s=>(match DQ cs []with | .error f=>(.error f:Except Fl (List Sc)) | .ok q=>.ok (s::q)))=_
 cases thrF cs l<;>rfl
theorem thrsF_hit {cs:List Gc}{r:List (List Gs)}{j:Nat}{ss:List Sc}{f:Fl}(h:j<r.length)(h0:DQ cs (r.take j)=.ok ss)(h1:thrF cs r[j]=.error f):DQ cs r=.error f:=by
 have h2:DQ cs (r.take (j+1))=.error f:=by rw[List.take_succ_eq_append_getElem h,thrsF_app,h0,thrsF_one,h1]
 rw[←List.take_append_drop (j+1) r,thrsF_app,h2]
theorem thrsF_next {cs:List Gc}{r:List (List Gs)}{j:Nat}{ss:List Sc}{s:Sc}(h:j<r.length)(h0:DQ cs (r.take j)=.ok ss)(h1:thrF cs r[j]=.ok s):DQ cs (r.take (j+1))=.ok (ss++[s]):=by
 rw[List.take_succ_eq_append_getElem h,thrsF_app,h0,thrsF_one,h1]
def ScsAt (w:World)(H:Nat→Prop)(xs:List Value)(ss:List Sc):Prop:=xs.length=ss.length∧∀i (h:i<ss.length) (h':i<xs.length),∃B M,xs[i]=.pointer (some ⟨B,0,none⟩)∧ScAt w B M H ss[i]
theorem ScAt.of_same {w w':World}{B M:Nat}{F:Nat→Prop}{s:Sc}(h:ScAt w B M F s)(hF:∀b,F b→w'.heap[b]?=w.heap[b]?):ScAt w' B M F s:=by
 obtain⟨ps,cs,pa,ca,hB,hlt,hM,hv,ha,hd,f1,f2,f3,f4⟩:=h;exact⟨ps,cs,pa,ca,(hF B f1).trans hB,hlt,hM.of_same (hF M f2),DK hv fun b hb=>hF b (f3 b (CL.1 hb)),DK ha fun b hb=>hF b (f4 b (CL.1 hb)),hd,f1,f2,f3,f4⟩
theorem ScsAt.of_same {w w':World}{H:Nat→Prop}{xs:List Value}{ss:List Sc}(h:ScsAt w H xs ss)(hH:∀b,H b→w'.heap[b]?=w.heap[b]?):ScsAt w' H xs ss:=⟨h.1,fun i h1 h2=>by
 obtain⟨B,M,h3,h4⟩:=h.2 i h1 h2;exact⟨B,M,h3,h4.of_same hH⟩⟩
theorem ScsAt.mono {w:World}{H H':Nat→Prop}{xs:List Value}{ss:List Sc}(h:ScsAt w H xs ss)(hH:∀b,H b→H' b):ScsAt w H' xs ss:=⟨h.1,fun i h1 h2=>by
 obtain⟨B,M,h3,h4⟩:=h.2 i h1 h2;exact⟨B,M,h3,h4.mono hH⟩⟩
theorem ScsAt.snoc {w:World}{H:Nat→Prop}{xs:List Value}{ss:List Sc}(h:ScsAt w H xs ss){B M:Nat}{s:Sc}(hs:ScAt w B M H s):ScsAt w H (xs++[.pointer (some ⟨B,0,none⟩)]) (ss++[s]):=by
 refine⟨by simp[h.1],fun i h1 h2=>?_⟩;by_cases hi:i<ss.length
 ·obtain⟨B',M',h3,h4⟩:=h.2 i hi (by rw[h.1];exact hi);refine⟨B',M',?_,?_⟩
  ·rw[List.getElem_append_left (by rw[h.1];exact hi)];exact h3
  ·rw[List.getElem_append_left hi];exact h4
 ·have e:i=ss.length:=by simp at h1;omega
  subst e;refine⟨B,M,?_,?_⟩
  ·rw[List.getElem_append_right (by rw[h.1];exact Nat.le_refl _)];simp[h.1]
  ·rw[List.getElem_append_right (Nat.le_refl _)];simpa using hs
def sThru (lo:Nat)(s:Sc):Loud:={ ok:=fun _ g=>lo≤g.b,val:=fun _ g=>.pointer (some ⟨g.c,0,none⟩),fp:=fun _ g k=>g.b≤k∧k<g.d,post:=fun _ g w=>∃M,ScAt w g.c M (fun k=>g.b≤k∧k<g.d) s }
def thruA (s:Sc)(w:World)(b d:Nat)(us:List Value):Prop:=∃B M,us=[.pointer (some ⟨B,0,none⟩)]∧ScAt w B M (fun k=>b≤k∧k<d) s
theorem thruA_same (s:Sc)(w w':World)(b d:Nat)(us:List Value)(h:thruA s w b d us)(hk:∀k,b≤k→k<d→w'.heap[k]?=w.heap[k]?):thruA s w' b d us:=by
 obtain⟨B,M,h1,h2⟩:=h;exact⟨B,M,h1,h2.of_same fun k hk'=>hk k hk'.1 hk'.2⟩
theorem rd_row {w:World}{base:Nat}{T:TypeId}{q:Option Addr}{n c:Nat}{xs:List Value}(h:w.ownsRow base T 1 (.slice q n c) n xs):Rd w q xs:=by
 intro j v hj;have hlen:=h.1;rcases h.2 with⟨h1,h2⟩|⟨g,cap,cur,h1,-,h3,-,-,-,h7⟩
 ·subst h2;have:xs=[]:=List.length_eq_zero_iff.1 (by omega);rw[this]at hj;simp at hj
 ·simp only[Value.slice.injEq]at h1;obtain⟨h8,-,-⟩:=h1;refine⟨g,0,h8,?_⟩;rw[←h7,List.getElem?_take]at hj;split at hj
  ·simp only[World.cell?,h3,Option.isSome_none,Bool.false_eq_true,if_false,Nat.zero_add];simpa using hj
  ·cases hj
def AllP (w:World)(r:Except Fl (List Sc))(e:Ending)(w':World):Prop:=BA (fun _=>False) w w'∧match r with
 |.error f=>e=.returned (.tuple #[.slice none 0 0,.agg #[.int .i64 f.err,.int .i64 f.line,.int .i64 f.col]])
 |.ok ss=>∃q c xs,e=.returned (.tuple #[.slice q ss.length c,.agg #[.int .i64 0,.int .i64 0,.int .i64 0]])∧Rd w' q xs∧ScsAt w' (fun b=>w.heap.size≤b) xs ss
theorem checkAll_any (p:Gp)(hb:DM p.threads≤1000000000)(hc:p.conts.length≤2000000)(hl:p.threads.length≤2000000)(hf:∀l∈p.threads,DS l)(w:World)(hT:TabS w)(S:Nat→Prop)(pv:Value)(hp:PAt w S pv p):
    Calls Tryz.prog 25 #[pv] w fun e w'=>AllP w (allF p) e w':=by
  obtain⟨p1,c1,p2,c2,rfl,hcs,hth⟩:=id hp;obtain⟨N,hN⟩:∃N:Int,(p.pool:Int)=N:=⟨_,rfl⟩;have hNp:p.pool=N:=hN;rw[hN]at hp;rw[hN];obtain⟨V1,C1,hV1,hC1,hb1,hk1,hs1⟩:=BD w (.cells #[.int .i64 N,.slice p1 p.conts.length c1,.slice p2 p.threads.length c2] TPr0);obtain⟨V2,A1,hV2,hA1,hb2,hk2,hs2⟩:=BD V1 (.cells #[.slice none 0 0] TLp);obtain⟨V,A2,hV,hA2,hb3,hk3,hs3⟩:=BD V2 (.cells #[.int .i64 0,.int .i64 0,.int .i64 0] TFa);have hkV:=hk1.trans (hk2.trans hk3);have h12:C1+1=A1:=by omega
  have h23:A1+1=A2:=by omega
  obtain⟨m0,m1,m2,-⟩:=BS ((hk2.trans hk3).blk hb1);have HKV:=hid hkV;have HA1:=hid (hk3.blk hb2);have HA2:=hid hb3;have HORD:=hid (show w.heap.size≤C1∧C1<A1∧A1<A2∧A2<V.heap.size by omega);have HVS:=hid (show V.heap.size=A2+1 by omega);have HPV:=hid (CG hp hkV);have HPI:=hid (CG (pat_in hp) hkV);have HBX:=hid (And.intro m0 (And.intro m1 m2));have HCK:=hid (check_any p (by omega) hc hl hf V (hkV.tabS hT) S _ (CG hp hkV))
  have HERR:=hid (show ∀(W:World) (E:Nat→Prop) (w9:World) (f:Fl),allF p=.error f→BA (fun b=>b=A1∨b=A2) W w9→BA E V W→(∀b,E b→A1≤b)→AllP w (allF p) (.returned (.tuple #[.slice none 0 0,.agg #[.int .i64 f.err,.int .i64 f.line,.int .i64 f.col]])) w9 from fun W E w9 f hf hk hk0 hE=>
    ⟨DL (DL hkV hk0 fun b hb=>.inr (by have:=hE b hb;omega)) hk fun b hb=>.inr (by omega),by rw[hf]⟩)
  have HCS:=hid (hcs.keep hkV fun _ _ e=>e);have HTH:=hid (hth.keep hkV fun _ _ e=>e);have HC:=hid hc;have HL:=hid hl;have HBB:=hid hb;clear hcs hth hp hb1 hb2 hb3 hk1 hk2 hk3 hs1 hs2 hs3 hkV hf hT hb hc hl
  go_enter_defers Tryz.func25,Tryz.ntmps25
  go_upto_region 1 with fail;rw[←hV1,←hC1,←hV2,←hV,h12,h23];clear hV1 hC1 hV2 hA1 hV hA2 h12 h23 hN
  cases hck:checkP p with
  | false=>
    have haf:allF p=.error ⟨9,0,0⟩:=by unfold allF;rw[hck];rfl
    have HAF:=hid haf;simp only[hck,if_neg NT]at HCK;clear hck haf hNp;go_wp2_with (first|(go_at_call 41;refine HCK.out.mono ?_;rintro e w1 ⟨rfl,hk1⟩;have HK1:=hid hk1;clear hk1)|(go_at_call 40;refine(bad_any2 _ _ 9 0 0).mono ?_;rintro e w5 ⟨rfl,rfl⟩));refine leaves_cons (f:=39) (args:=#[.pointer (some ⟨A1,0,none⟩),.pointer (some ⟨A2,0,none⟩)]) (by simp) (by simp[go_sem]) ?_;refine(catch_flaw A1 A2 (.slice none 0 0) 0 0 0 9 0 0 [] _ (HK1.out.blk HA1.out) (HK1.out.blk HA2.out) HORD.out.2.2.1).mono ?_;rintro e u' w9 ⟨rfl,rfl,g6,g7,hkf⟩;have c0:w9.cell? ⟨A1,0,none⟩=some (.slice none 0 0):=by simp[World.cell?,g6]
    obtain⟨d0,d1,d2,-⟩:=BS g7;exact⟨.tuple #[.slice none 0 0,.agg #[.int .i64 9,.int .i64 0,.int .i64 0]],by simp[results,Tryz.results25,go_sem,c0,d0,d1,d2],HERR.out _ _ w9 ⟨9,0,0⟩ HAF.out hkf HK1.out (fun _ e=>e.elim)⟩
  | true=>
    have hall2:sizesOk p=false→allF p=.error ⟨2,0,0⟩:=fun h=>by unfold allF;rw[hck,h];rfl
    have hall3:sizesOk p=true→allF p=(match contF p.conts 0 p.conts with|some f=>.error f|none=>DQ p.conts p.threads):=fun h=>by unfold allF;rw[hck,h];rfl
    simp only[hck,if_true]at HCK;have HALL2:=hid hall2;have HALL3:=hid hall3;clear hck hall2 hall3;go_upto_region 3 with (first|(go_at_call 41;refine HCK.out.mono ?_;rintro e w1 ⟨rfl,hk1⟩;have HK1:=hid hk1;clear hk1)|(go_at_call 40;refine(bad_any2 _ _ 9 0 0).mono ?_;rintro e w5 ⟨rfl,rfl⟩));have HBX1:=hid (show w5.cell? ⟨C1,0,none⟩=some (.int .i64 N)∧w5.cell? ⟨C1,1,none⟩=some (.slice p1 p.conts.length c1)∧w5.cell? ⟨C1,2,none⟩=some (.slice p2 p.threads.length c2) from⟨HK1.out.stay m0,HK1.out.stay m1,HK1.out.stay m2⟩);obtain⟨q0,q1,q2⟩:=HBX1.out;clear m0 m1 m2 HCK;have HW1:=hid (fun W=>within_any W (p.conts.length:Int) 4);have HW2:=hid (fun W=>within_any W (p.threads.length:Int) 4);by_cases hs1:N<1
    · have hsz:sizesOk p=false:=by unfold sizesOk;rw[hNp,decide_eq_false (show ¬(1≤N) by omega)];rfl
      have HAF:=hid (HALL2.out hsz);clear hsz hNp;go_wp2_with (go_at_call 40;refine(bad_any2 _ _ 2 0 0).mono ?_;rintro e w5 ⟨rfl,rfl⟩);refine leaves_cons (f:=39) (args:=#[.pointer (some ⟨A1,0,none⟩),.pointer (some ⟨A2,0,none⟩)]) (by simp) (by simp[go_sem]) ?_;refine(catch_flaw A1 A2 (.slice none 0 0) 0 0 0 2 0 0 [] _ (HK1.out.blk HA1.out) (HK1.out.blk HA2.out) HORD.out.2.2.1).mono ?_;rintro e u' w9 ⟨rfl,rfl,g6,g7,hkf⟩;have c0:w9.cell? ⟨A1,0,none⟩=some (.slice none 0 0):=by simp[World.cell?,g6]
      obtain⟨d0,d1,d2,-⟩:=BS g7;exact⟨.tuple #[.slice none 0 0,.agg #[.int .i64 2,.int .i64 0,.int .i64 0]],by simp[results,Tryz.results25,go_sem,c0,d0,d1,d2],HERR.out _ _ w9 ⟨2,0,0⟩ HAF.out hkf HK1.out (fun _ e=>e.elim)⟩
    · by_cases hs2:32<N
      · have hsz:sizesOk p=false:=by unfold sizesOk;rw[hNp,decide_eq_false (show ¬(N≤32) by omega)];simp
        have HAF:=hid (HALL2.out hsz);clear hsz hNp;go_wp2_with (go_at_call 40;refine(bad_any2 _ _ 2 0 0).mono ?_;rintro e w5 ⟨rfl,rfl⟩);refine leaves_cons (f:=39) (args:=#[.pointer (some ⟨A1,0,none⟩),.pointer (some ⟨A2,0,none⟩)]) (by simp) (by simp[go_sem]) ?_;refine(catch_flaw A1 A2 (.slice none 0 0) 0 0 0 2 0 0 [] _ (HK1.out.blk HA1.out) (HK1.out.blk HA2.out) HORD.out.2.2.1).mono ?_;rintro e u' w9 ⟨rfl,rfl,g6,g7,hkf⟩;have c0:w9.cell? ⟨A1,0,none⟩=some (.slice none 0 0):=by simp[World.cell?,g6]
        obtain⟨d0,d1,d2,-⟩:=BS g7;exact⟨.tuple #[.slice none 0 0,.agg #[.int .i64 2,.int .i64 0,.int .i64 0]],by simp[results,Tryz.results25,go_sem,c0,d0,d1,d2],HERR.out _ _ w9 ⟨2,0,0⟩ HAF.out hkf HK1.out (fun _ e=>e.elim)⟩
      · obtain⟨bc,hbc⟩:∃b,(decide ((1:Int)≤p.conts.length) && decide ((p.conts.length:Int)≤4))=b:=⟨_,rfl⟩;obtain⟨bt,hbt⟩:∃b,(decide ((1:Int)≤p.threads.length) && decide ((p.threads.length:Int)≤4))=b:=⟨_,rfl⟩;have hbc':(decide (1≤p.conts.length) && decide (p.conts.length≤4))=bc:=by rw[←hbc];congr 1<;>(apply decide_eq_decide.2;omega)
        have hbt':(decide (1≤p.threads.length) && decide (p.threads.length≤4))=bt:=by rw[←hbt];congr 1<;>(apply decide_eq_decide.2;omega)
        have hsz:sizesOk p=(bc && bt):=by
          unfold sizesOk;rw[hNp,decide_eq_true (show 1≤N by omega),decide_eq_true (show N≤32 by omega),Bool.true_and,Bool.true_and,←Bool.and_assoc,hbc',hbt']
        rw[hbc]at HW1;rw[hbt]at HW2;clear hbc hbt hbc' hbt'
        cases bc with
        | false=>
          have HAF:=hid (HALL2.out hsz);clear hsz hNp;go_wp2_with (first|(go_at_call 42;refine(HW1.out _).mono ?_;clear HW1;rintro e w4 ⟨rfl,rfl⟩)|(go_at_call 40;refine(bad_any2 _ _ 2 0 0).mono ?_;rintro e w5 ⟨rfl,rfl⟩));refine leaves_cons (f:=39) (args:=#[.pointer (some ⟨A1,0,none⟩),.pointer (some ⟨A2,0,none⟩)]) (by simp) (by simp[go_sem]) ?_;refine(catch_flaw A1 A2 (.slice none 0 0) 0 0 0 2 0 0 [] _ (HK1.out.blk HA1.out) (HK1.out.blk HA2.out) HORD.out.2.2.1).mono ?_;rintro e u' w9 ⟨rfl,rfl,g6,g7,hkf⟩;have c0:w9.cell? ⟨A1,0,none⟩=some (.slice none 0 0):=by simp[World.cell?,g6]
          obtain⟨d0,d1,d2,-⟩:=BS g7;exact⟨.tuple #[.slice none 0 0,.agg #[.int .i64 2,.int .i64 0,.int .i64 0]],by simp[results,Tryz.results25,go_sem,c0,d0,d1,d2],HERR.out _ _ w9 ⟨2,0,0⟩ HAF.out hkf HK1.out (fun _ e=>e.elim)⟩
        | true=>
          cases bt with
          | false=>
            have HAF:=hid (HALL2.out hsz);clear hsz hNp;go_wp2_with (first|(go_at_call 42;refine(HW1.out _).mono ?_;clear HW1;rintro e w4 ⟨rfl,rfl⟩)|(go_at_call 42;refine(HW2.out _).mono ?_;clear HW2;rintro e w4 ⟨rfl,rfl⟩)|(go_at_call 40;refine(bad_any2 _ _ 2 0 0).mono ?_;rintro e w5 ⟨rfl,rfl⟩));refine leaves_cons (f:=39) (args:=#[.pointer (some ⟨A1,0,none⟩),.pointer (some ⟨A2,0,none⟩)]) (by simp) (by simp[go_sem]) ?_;refine(catch_flaw A1 A2 (.slice none 0 0) 0 0 0 2 0 0 [] _ (HK1.out.blk HA1.out) (HK1.out.blk HA2.out) HORD.out.2.2.1).mono ?_;rintro e u' w9 ⟨rfl,rfl,g6,g7,hkf⟩;have c0:w9.cell? ⟨A1,0,none⟩=some (.slice none 0 0):=by simp[World.cell?,g6]
            obtain⟨d0,d1,d2,-⟩:=BS g7;exact⟨.tuple #[.slice none 0 0,.agg #[.int .i64 2,.int .i64 0,.int .i64 0]],by simp[results,Tryz.results25,go_sem,c0,d0,d1,d2],HERR.out _ _ w9 ⟨2,0,0⟩ HAF.out hkf HK1.out (fun _ e=>e.elim)⟩
          | true=>
            have HAF:=hid (HALL3.out hsz);clear hsz hNp;go_upto_region 4 with (first|(go_at_call 42;refine(HW1.out _).mono ?_;clear HW1;rintro e w4 ⟨rfl,rfl⟩)|(go_at_call 42;refine(HW2.out _).mono ?_;clear HW2;rintro e w4 ⟨rfl,rfl⟩)|(go_at_call 40;refine(bad_any2 _ _ 2 0 0).mono ?_;rintro e w5 ⟨rfl,rfl⟩));clear q0 q1 q2;obtain⟨q0,q1,q2⟩:=HBX1.out;go_wp2_with fail;go_loopw [4,38] (fun v4 v38 wr=>∃j:Nat,v38=.int .i64 j∧j≤p.conts.length∧(∀k (_:k<j) (h:k<p.conts.length),¬(CZ p.conts p.conts[k].name).getD 0<0+k)∧BA (fun _=>False) V wr) (fun _ v _=>p.conts.length - (intOf v).toNat)
            case atStart=>exact⟨0,rfl,Nat.zero_le _,fun k h=>absurd h (Nat.not_lt_zero _),HK1.out⟩
            case round=>
              obtain⟨j,rfl,hj,hno,hk⟩:=hrel;have HNO:=hid hno;have HK:=hid hk;by_cases hlt:j<p.conts.length
              · have hlti:(j:Int)<p.conts.length:=by omega
                have hj0:(0:Int)≤j:=by omega
                have hWi:IntKind.i64.wrap ((j:Int)+1)=(j:Int)+1:=IntWalk.i64_in _ (by have:=HC.out;omega);obtain⟨g,o,hpp,-,y0,y1,y2,y3⟩:=(HCS.out.keep hk fun _ _ e=>e) j hlt;subst hpp;have hci:=contI_in hlt;obtain⟨n9,hn9⟩:∃n:Nat,(CZ p.conts p.conts[j].name).getD 0=n:=⟨_,rfl⟩;rw[hn9]at hci;have HHIT:=hid (fun (h:n9<0+j)=>contF_hit p.conts p.conts 0 j hlt hno (by rw[hn9];exact h))
                have HNX:=hid (show ¬n9<0+j→∀k (_:k<j+1) (h:k<p.conts.length),¬(CZ p.conts p.conts[k].name).getD 0<0+k from fun h k hk hk'=>by
                  by_cases e:k=j
                  · subst e;rw[hn9];exact h
                  · exact hno k (by omega) hk')
                obtain⟨x,hx⟩:∃x,p.conts[j]=x:=⟨_,rfl⟩;rw[hx]at hci y0 y1 y2 y3 HHIT;obtain⟨xk,xn,xl,xc⟩:=x;dsimp only at hci y0 y1 y2 y3 HHIT;obtain⟨X,Cx,hX,hCx,hcb,hkc,hsc⟩:=BD wr (.cells #[.int .i64 xk,strV xn,.int .i64 xl,.int .i64 xc] TCt);have HKX:=hid (hk.trans hkc);obtain⟨e0,e1,e2,e3⟩:=blk4 hcb
                have HFX:=hid (show ∀w',BA (fun _=>False) X w'→w'.cell? ⟨Cx,1,none⟩=some (strV xn)∧w'.cell? ⟨Cx,2,none⟩=some (.int .i64 xl)∧w'.cell? ⟨Cx,3,none⟩=some (.int .i64 xc)∧w'.cell? ⟨C1,0,none⟩=some (.int .i64 N)∧w'.cell? ⟨C1,1,none⟩=some (.slice (some ⟨g,o,none⟩) p.conts.length c1)∧w'.cell? ⟨C1,2,none⟩=some (.slice p2 p.threads.length c2)from fun w' hq=>by
                  obtain⟨b0,b1,b2⟩:=HBX.out;have h8:=HKX.out.trans hq;exact⟨hq.stay e1,hq.stay e2,hq.stay e3,h8.stay b0,h8.stay b1,h8.stay b2⟩)
                have HCT:=hid (show ∀w',BA (fun _=>False) X w'→Calls Tryz.prog 22 #[.agg #[.int .i64 N,.slice (some ⟨g,o,none⟩) p.conts.length c1,.slice p2 p.threads.length c2],strV xn] w' fun e w''=>e=.returned (.int .i64 n9)∧BA (fun _=>False) w' w'' from fun w' hq=>by
                  have h8:=cont_any p xn (by have:=HC.out;omega) w' S _ (CG HPV.out (HKX.out.trans hq));rw[hci]at h8;exact h8)
                obtain⟨b,hb⟩:∃b,decide (n9<j)=b:=⟨_,rfl⟩;have HBD:=hid hb;unfold strV at HFX HCT hX y1;clear hno hk hci hn9 hx hcb hkc hsc e0 e1 e2 e3 hb;go_upto_region 7 with fail;rw[←hX,←hCx];clear hX hCx y0 y1 y2 y3 q0 q1 q2;have hb:=HBD.out
                refine OwnX.CN (fun ch w'=>ch=fwC 8 xl xc∧b=true∧BA (fun _=>False) V w') (fun ch a' w' hd hx=>by
                  obtain⟨rfl,h9,hk9⟩:=hx;have hhit:=HHIT.out (by rw[h9,decide_eq_true_eq]at hb;omega);have t2:a'.tmps[2]?=some (.pointer (some ⟨A1,0,none⟩)):=(hd.slot 2 (by decide)).trans rfl;have t3:a'.tmps[3]?=some (.pointer (some ⟨A2,0,none⟩)):=(hd.slot 3 (by decide)).trans rfl;show Leaves _ _ _ _ _ _ _;rw[hd.1];have HAF2:=hid (HAF.out.trans (show _=.error ⟨8,xl,xc⟩ by rw[hhit]));refine leaves_cons (f:=39) (args:=#[.pointer (some ⟨A1,0,none⟩),.pointer (some ⟨A2,0,none⟩)]) (by simp) (by simp[go_sem]) ?_;refine(catch_flaw A1 A2 (.slice none 0 0) 0 0 0 8 xl xc [] _ (hk9.blk HA1.out) (hk9.blk HA2.out) HORD.out.2.2.1).mono ?_;rintro e u' w9 ⟨rfl,rfl,g6,g7,hkf⟩;have c0:w9.cell? ⟨A1,0,none⟩=some (.slice none 0 0):=by simp[World.cell?,g6]
                  obtain⟨d0,d1,d2,-⟩:=BS g7;exact⟨.tuple #[.slice none 0 0,.agg #[.int .i64 8,.int .i64 xl,.int .i64 xc]],by simp[results,Tryz.results25,go_sem,t2,t3,c0,d0,d1,d2],HERR.out _ _ w9 ⟨8,xl,xc⟩ HAF2.out hkf hk9 (fun _ e=>e.elim)⟩) (by kernel_rfl) (fun i=>[[],[],[1],[0,1,2],[],[0,1,2,3,4],[],[6],[],[8],[0,1,2,3,4,5,6,7,8,9]].getD i []) (fun _=>[]) (fun _=>[]) [10] (by kernel_rfl) (fun i=>if i=3 then some (BN (.int .i64 n9)) else if i=10 then some (sBad b) else none) ?_
                iterate 3 (first
                  |(apply OwnX.BZ rfl;simp only[Act.put,LS])
                  |( apply OwnX.BC rfl rfl;focus (intro w' hk;obtain⟨v1,v2,v3,b0,b1,b2⟩:=HFX.out w' ((BA.drew (fun _=>False) X).trans hk);go_simp;with_reducible rfl)
                     simp only[Act.put,LS]))
                refine OwnX.BE rfl rfl (OwnX.CU.of (BR 22 #[.agg #[.int .i64 N,.slice (some ⟨g,o,none⟩) p.conts.length c1,.slice p2 p.threads.length c2],.string ⟨xn.toArray⟩] (fun w=>by go_simp) ⟨default,trivial⟩ (fun g _=>BX _) fun w' hk _ _=>(HCT.out w' ((BA.drew (fun _=>False) X).trans hk)).mono ?_)) fun g0 _=>?_
                · rintro e w'' ⟨rfl,hk'⟩;exact⟨default,trivial,rfl,hk'.mono fun _ e=>e.elim,fun b h=>h.elim,trivial⟩
                simp only[BN,Act.put,LS]
                iterate 6 (first
                  |(apply OwnX.BZ rfl;simp only[Act.put,LS])
                  |( apply OwnX.BC rfl rfl;focus (intro w' hk;obtain⟨v1,v2,v3,b0,b1,b2⟩:=HFX.out w' ((BA.drew (fun _=>False) X).trans hk);go_simp;with_reducible rfl)
                     simp only[Act.put,LS]))
                refine OwnX.BE rfl rfl (DD b 8 xl xc (fun w=>by go_simp) fun w' hk hb=>⟨rfl,hb,(HKX.out.trans (BA.drew (fun _=>False) _)).trans hk⟩) fun g _=>?_;refine OwnX.BP ?_;intro W4 hk9 hF hG;have hb0:b=false:=(hF 10 (by simp)).1;have HK4:=hid ((HKX.out.trans (BA.drew (fun _=>False) _)).trans hk9);have HNX2:=hid (HNX.out (by rw[hb0,decide_eq_false_iff_not]at hb;omega));clear hF hG hk9 hb hb0;simp only[sBad,Act.put,LS];go_wp2_with fail;exact⟨⟨j+1,by simp,by omega,HNX2.out,HK4.out⟩,by simp only[intOf];omega⟩
              · have hnl:¬(j:Int)<p.conts.length:=by omega
                have hcf:contF p.conts 0 p.conts=none:=contF_at p.conts p.conts 0 fun k hk=>hno k (by omega) hk;have HAF2:=hid (show allF p=DQ p.conts p.threads from HAF.out.trans (by rw[hcf]));obtain⟨b0,b1,b2⟩:=HBX.out;have q0:=hk.stay b0;have q1:=hk.stay b1;have q2:=hk.stay b2;clear hno hcf HAF b0 b1 b2;go_upto_region 9 with fail;have HKT:=hid hk;have hnil:∃xs:List Value,(∃q c,V.heap[A1]?=some (.cells #[.slice q 0 c] TLp (0,0))∧V.ownsRow (A2+1) TSp 1 (.slice q 0 c) 0 xs):=⟨[],none,0,HA1.out,World.ownsRow_nil _ _ _ _⟩;clear hk hnil;go_wp2_with fail;go_loopw [6,58] (fun v6 v58 wr=>∃(j:Nat) (ss:List Sc) (xs:List Value) (q:Option Addr) (c:Nat),v58=.int .i64 j∧j≤p.threads.length∧DQ p.conts (p.threads.take j)=.ok ss∧ss.length=j∧wr.heap[A1]?=some (.cells #[.slice q j c] TLp (0,0))∧wr.ownsRow (A2+1) TSp 1 (.slice q j c) j xs∧ScsAt wr (fun b=>A2<b∧b<wr.heap.size∧¬Of q b) xs ss∧BA (fun b=>b=A1) V wr) (fun _ v _=>p.threads.length - (intOf v).toNat)
                case atStart=>exact⟨0,[],[],none,0,rfl,Nat.zero_le _,rfl,rfl,HKT.out.blk HA1.out,World.ownsRow_nil _ _ _ _,⟨rfl,fun i h=>absurd h (Nat.not_lt_zero _)⟩,HKT.out.mono fun _ e=>e.elim⟩
                case round=>
                  obtain⟨j,ss,xs,q,c,rfl,hj,hf,hsl,hA,hrow,hscs,hk⟩:=hrel;have HF:=hid hf;have HA:=hid hA;have HROW:=hid hrow;have HSCS:=hid hscs;have HK:=hid hk;have HSL:=hid hsl;by_cases hlt:j<p.threads.length
                  · have hlti:(j:Int)<p.threads.length:=by omega
                    have hj0:(0:Int)≤j:=by omega
                    have hWi:IntKind.i64.wrap ((j:Int)+1)=(j:Int)+1:=IntWalk.i64_in _ (by have:=HL.out;omega);have HTR:=hid (show ∀w',BA (fun b=>A1≤b) V w'→Calls Tryz.prog 43 #[.agg #[.int .i64 N,.slice p1 p.conts.length c1,.slice p2 p.threads.length c2],.int .i64 j] w' fun e w''=>ThrP w' (thrF p.conts p.threads[j]) e w'' from fun w' hq=>through_any p (by have:=HC.out;omega) j hlt (by have h1:=hSize_mem hlt;have:=HBB.out;omega) w' (fun b=>S b∧b<w.heap.size) _ (pat_keep HPI.out hq fun b hb e=>by have h1:=hb.2;have h2:=HORD.out;have e:A1≤b:=e;omega));have HHIT:=hid (fun f=>thrsF_hit (f:=f) hlt hf);have HNXT:=hid (fun s=>thrsF_next (s:=s) hlt hf);have hA2:wr.heap[A2]?=some (.cells #[.int .i64 0,.int .i64 0,.int .i64 0] TFa (0,0)):=(hk.block A2 (by have:=HORD.out;omega) (by have:=HORD.out;omega)).trans HA2.out;have hblt:∀b,Of q b→A2<b∧b<wr.heap.size:=fun b hb=>by have:=row_lt hrow hb;omega
                    have HBL:=hid hblt
                    have HB9:=hid (show ∀w',BA (fun b=>b=A1∨b=A2∨(Value.slice q j c).ownBlock=some b) wr.drew w'→(w'.cell? ⟨C1,0,none⟩=some (.int .i64 N)∧w'.cell? ⟨C1,1,none⟩=some (.slice p1 p.conts.length c1)∧w'.cell? ⟨C1,2,none⟩=some (.slice p2 p.threads.length c2))∧BA (fun b=>A1≤b) V w' from fun w' hq=>by
                      obtain⟨b0,b1,b2⟩:=HBX.out;have h9:=HORD.out
                      have hE:BA (fun b=>A1≤b) V w':=((hk.mono fun b e=>by rw[show b=A1 from e];exact Nat.le_refl _).trans (BA.drew _ wr)).trans (hq.mono fun b e=>by
                        rcases e with e|e|e
                        · omega
                        · omega
                        · have:=hblt b (CL.1 e);omega)
                      have hn:¬A1≤C1:=by omega
                      exact⟨⟨hE.cell b0 hn,hE.cell b1 hn,hE.cell b2 hn⟩,hE⟩)
                    have HA2J:=hid hA2;obtain⟨r,hr⟩:∃r,thrF p.conts p.threads[j]=r:=⟨_,rfl⟩;rw[hr]at HTR HHIT HNXT;clear hf hsl hscs hk hr hblt
                    cases r with
                    | error f=>
                      have HAFE:=hid (HAF2.out.trans (HHIT.out f rfl));clear HNXT HHIT;go_upto_region 12 with fail
                      refine OwnX.wp_own3 (fun ch w'=>ch=fwC f.err f.line f.col∧BA (fun b=>A1≤b) V w'∧w'.heap[A1]?=some (.cells #[.slice q j c] TLp (0,0))∧w'.heap[A2]?=some (.cells #[.int .i64 0,.int .i64 0,.int .i64 0] TFa (0,0))) (fun ch a' w' hd hx=>by
                        obtain⟨rfl,hk9,hA9,hB9⟩:=hx;have t2:a'.tmps[2]?=some (.pointer (some ⟨A1,0,none⟩)):=(hd.slot 2 (by decide)).trans rfl;have t3:a'.tmps[3]?=some (.pointer (some ⟨A2,0,none⟩)):=(hd.slot 3 (by decide)).trans rfl;show Leaves _ _ _ _ _ _ _;rw[hd.1];refine leaves_cons (f:=39) (args:=#[.pointer (some ⟨A1,0,none⟩),.pointer (some ⟨A2,0,none⟩)]) (by simp) (by simp[go_sem]) ?_;refine(catch_flaw A1 A2 (.slice q j c) 0 0 0 f.err f.line f.col [] _ hA9 hB9 HORD.out.2.2.1).mono ?_;rintro e u' w9 ⟨rfl,rfl,g6,g7,hkf⟩;have c0:w9.cell? ⟨A1,0,none⟩=some (.slice none 0 0):=by simp[World.cell?,g6]
                        obtain⟨d0,d1,d2,-⟩:=BS g7;exact⟨.tuple #[.slice none 0 0,.agg #[.int .i64 f.err,.int .i64 f.line,.int .i64 f.col]],by simp[results,Tryz.results25,go_sem,t2,t3,c0,d0,d1,d2],HERR.out _ _ w9 f HAFE.out hkf hk9 (fun _ e=>e)⟩) (by kernel_rfl) A1 A2 _ _ hA hA2 HORD.out.2.2.1 (A2+1) TSp 1 _ _ _ hrow (by omega) (fun i=>[[],[],[],[1,2],[1,2,3],[0,1,2,3,4],[0,1,2,3,4,5]].getD i []) (fun i=>if i=0 then [7] else if i=3 then [7,8] else if i=5 then [9,4] else if i=6 then [7] else []) (fun i=>if i=5 then [9] else if i=6 then [7] else []) [3] (by kernel_rfl)
                        (fun i=>if i=0 then some (BN (.slice q j c)) else if i=3 then some (OwnX.sNo (.pointer none)) else if i=4 then some (sOneV TSp #[.pointer none]) else if i=5 then some (sRow (A2+1) TSp 1 (j+1) (xs++[.pointer none])) else if i=6 then some (CT A1 0 TLp #[.slice q j c]) else none) ?_
                      refine OwnX.BE rfl rfl (OwnX.CU.of (BY ⟨default,trivial⟩ (fun g _ w w' _ _ _ _ _=>trivial) fun w' hk hav _=>by
                        have h0:w'.heap[A1]?=some (.cells #[.slice q j c] TLp (0,0)):=(hav 7 (by decide)).1;have x0:w'.cell? ⟨A1,0,none⟩=some (.slice q j c):=by simp[World.cell?,h0]
                        exact⟨w',default,trivial,.inl (by go_simp<;>rfl),BA.refl _ _,fun b h=>h.elim,trivial⟩)) fun _ _=>?_
                      simp only[BN,Act.put,LS]
                      iterate 2 (first
                        |(apply OwnX.BZ rfl;simp only[Act.put,LS])
                        |( apply OwnX.BC rfl rfl;focus (intro w' hk;obtain⟨⟨b0,b1,b2⟩,-⟩:=HB9.out w' hk;go_simp;with_reducible rfl)
                           simp only[Act.put,LS]))
                      refine OwnX.BE rfl rfl (OwnX.loud_gives 43 #[.agg #[.int .i64 N,.slice p1 p.conts.length c1,.slice p2 p.threads.length c2],.int .i64 j] (.pointer none) (fun w=>by go_simp) fun w' hk hav=>(HTR.out w' (HB9.out w' hk).2).mono ?_) fun g3 _=>?_
                      · rintro e w'' ⟨hkT,rfl⟩;exact⟨_,rfl,rfl,(HB9.out w' hk).2.trans (hkT.mono fun _ e=>e.elim),hkT.blk (hav 7 (by decide)).1,hkT.blk (hav 8 (by decide)).1⟩
                      simp only[OwnX.sNo,Act.put,LS];refine OwnX.BE rfl rfl (OwnX.CU.of (loud_oneV TSp #[.pointer none] (fun w=>by go_simp))) fun g4 _=>?_;simp only[sOneV,Act.put,LS];refine OwnX.BE rfl rfl (OwnX.CU.of (FC (A2+1) TSp TLp (.pointer none) 1 8 (by kernel_rfl) (by kernel_rfl) rfl (by decide) (.tmp 61) (.tmp 65) rfl (.slice q j c) j xs g4.b [.pointer none] rfl rfl rfl (by simp[Value.oneCell']) (by unfold maxLen;have:=HL.out;omega) (by have:=HL.out;omega) (by have:=HK.out.size;have:=HORD.out;show A2+1≤wr.heap.size;omega) 9 (by decide) (by decide) (fun w h=>h) (fun b hb=>.inr (.inr ⟨rfl,hb⟩)) 4 (by decide) (fun w h=>h))) fun g5 _=>?_;simp only[sRow,Act.put,LS];refine OwnX.BE rfl rfl (OwnX.CU.of (CS A1 0 TLp #[.slice q j c] (.slice g5.p (j+1) g5.c) (BV rfl rfl) (fun w u hc hf=>by go_simp<;>rfl) 7 (by decide) (by decide) (fun w h=>h) (.inl ⟨rfl,rfl⟩) (by show 0<1;decide))) fun g6 _=>?_;refine OwnX.BP ?_;intro W9 hk9 hF hG;exact((hF 3 (by decide)).1:False).elim
                    | ok s'=>
                      clear HHIT;go_upto_region 12 with fail
                      refine wp_own3 (by kernel_rfl) A1 A2 _ _ hA hA2 HORD.out.2.2.1 (A2+1) TSp 1 _ _ _ hrow (by omega) (fun i=>[[],[],[],[1,2],[1,2,3],[0,1,2,3,4],[0,1,2,3,4,5]].getD i []) (fun i=>if i=0 then [7] else if i=5 then [9,3,4] else if i=6 then [7] else []) (fun i=>if i=5 then [9,3] else if i=6 then [7] else []) [5,6,8] (by kernel_rfl)
                        (fun i=>if i=0 then some (BN (.slice q j c)) else if i=3 then some (sThru wr.heap.size s') else if i=4 then some (sOneA TSp) else if i=5 then some (sApp (A2+1) TSp 1 j xs wr.heap.size (thruA s')) else if i=6 then some (CT A1 0 TLp #[.slice q j c]) else none) ?_
                      refine BE rfl rfl ((BY ⟨default,trivial⟩ (fun g _ w w' _ _ _ _ _=>trivial) fun w' hk hav _=>by
                        have h0:w'.heap[A1]?=some (.cells #[.slice q j c] TLp (0,0)):=(hav 7 (by decide)).1;have x0:w'.cell? ⟨A1,0,none⟩=some (.slice q j c):=by simp[World.cell?,h0]
                        exact⟨w',default,trivial,.inl (by go_simp<;>rfl),BA.refl _ _,fun b h=>h.elim,trivial⟩)) fun _ _=>?_
                      simp only[BN,Act.put,LS]
                      iterate 2 (first
                        |(apply BZ rfl;simp only[Act.put,LS])
                        |( apply BC rfl rfl;focus (intro w' hk;obtain⟨⟨b0,b1,b2⟩,-⟩:=HB9.out w' hk;go_simp;with_reducible rfl)
                           simp only[Act.put,LS]))
                      refine BE rfl rfl (BR 43 #[.agg #[.int .i64 N,.slice p1 p.conts.length c1,.slice p2 p.threads.length c2],.int .i64 j] (fun w=>by go_simp) ⟨{ b:=wr.heap.size },Nat.le_refl _⟩ (fun g _ _ _ _ _ _ hb hp=>by
                          obtain⟨M,h1⟩:=hp;exact⟨M,h1.of_same fun b hb'=>hb b hb'⟩) fun w' hk _ _=>(HTR.out w' (HB9.out w' hk).2).mono ?_) fun g3 hg3=>?_
                      · rintro e w'' ⟨hkT,B,M,rfl,hsT⟩;exact⟨{ b:=w'.heap.size,c:=B,d:=w''.heap.size },hk.size,rfl,hkT.mono fun _ e=>e.elim,fun b hb=>⟨.inl hb.1,hb.2⟩,M,hsT.cut⟩
                      simp only[sThru,Act.put,LS];refine BE rfl rfl (loud_oneA TSp (.pointer (some ⟨g3.c,0,none⟩)) (one_arg rfl rfl) (fun w=>by go_simp)) fun g4 _=>?_;simp only[sOneA,Act.put,LS];refine BE rfl rfl (loud_appendM (A2+1) wr.heap.size TSp TLp (.pointer none) 1 8 (by kernel_rfl) (by kernel_rfl) rfl (by decide) (.tmp 61) (.tmp 65) rfl (.slice q j c) j xs [.pointer (some ⟨g3.c,0,none⟩)] g3.b g3.d g4.b (thruA s') (thruA_same s') rfl rfl rfl (by simp[Value.oneCell']) (by unfold maxLen;have:=HL.out;omega) (by have:=HL.out;omega) (by have:=HK.out.size;have:=HORD.out;show A2+1≤wr.heap.size;omega) hg3 9 (by decide) (by decide) (fun w h=>h) (fun b hb=>.inr (.inr ⟨rfl,hb⟩)) 3 (by decide) (by decide) (by decide) (fun w h=>by obtain⟨M,h1⟩:=h;exact⟨g3.c,M,rfl,h1⟩) (fun b hb=>hb) 4 (by decide) (fun w h=>h _ (one_arg rfl rfl))) fun g5 hg5=>?_;simp only[sApp,Act.put,LS];refine BE rfl rfl (CS A1 0 TLp #[.slice q j c] (.slice g5.p (j+1) g5.c) (BV rfl rfl) (fun w u hc hf=>by go_simp<;>rfl) 7 (by decide) (by decide) (fun w h=>h) (.inl ⟨rfl,rfl⟩) (by show 0<1;decide)) fun g6 _=>?_;simp only[CT,Act.put,List.setIfInBounds_toArray,List.set_cons_zero];refine BP ?_;intro W9 hk9 hF hG;have fA:W9.heap[A1]?=some (.cells #[.slice g5.p (j+1) g5.c] TLp (0,0)):=(hF 6 (by decide)).1 _ (BV rfl rfl);have fB:W9.heap[A2]?=some (.cells #[.int .i64 0,.int .i64 0,.int .i64 0] TFa (0,0)):=(hF 8 (by decide)).1;obtain⟨fN,us,fR,B,M,rfl,fS⟩:=(hF 5 (by decide)).1;have fO:∀b,(Of g5.p b∨(g5.b≤b∧b<g5.d))→b<W9.heap.size∧(wr.heap.size≤b∨b=A1∨b=A2∨(Value.slice q j c).ownBlock=some b):=fun b hb=>(hF 5 (by decide)).2 b hb;have hord:=HORD.out;have hg5':wr.heap.size≤g5.b:=hg5
                      have hHS:∀b,(A2<b∧b<wr.heap.size∧¬Of q b)→W9.heap[b]?=wr.heap[b]?:=fun b hb=>hk9.block b hb.2.1 (by
                        rintro (h|h|h)
                        · omega
                        · omega
                        · exact hb.2.2 (CL.1 h))
                      have hsz9:=hk9.size
                      have hNEW:ScsAt W9 (fun b=>A2<b∧b<W9.heap.size∧¬Of g5.p b) (xs++[.pointer (some ⟨B,0,none⟩)]) (ss++[s']):=by
                        have hold:∀b,(A2<b∧b<wr.heap.size∧¬Of q b)→(A2<b∧b<W9.heap.size∧¬Of g5.p b):=fun b hb=>by
                          refine⟨hb.1,Nat.lt_of_lt_of_le hb.2.1 hsz9,fun h9=>?_⟩;rcases (fO b (.inl h9)).2 with h1|h1|h1|h1
                          · omega
                          · omega
                          · omega
                          · exact hb.2.2 (CL.1 h1)
                        have hnew:∀b,(g5.b≤b∧b<g5.d)→(A2<b∧b<W9.heap.size∧¬Of g5.p b):=fun b hb=>by
                          have hwz:=HK.out.size;exact⟨by have:=hb.1;omega,(fO b (.inr hb)).1,fun h9=>fN b h9 hb⟩
                        exact ScsAt.snoc ((HSCS.out.of_same hHS).mono hold) (fS.mono hnew)
                      have hKN:BA (fun b=>b=A1) V W9:=by
                        have h0:=HK.out;refine⟨hk9.os.trans h0.os,hk9.tape.trans h0.tape,hk9.output.trans h0.output,Nat.le_trans h0.size hsz9,fun b hb hn=>?_⟩;by_cases e:b=A2
                        · rw[e,fB,HA2.out]
                        · refine(hk9.block b (Nat.lt_of_lt_of_le hb h0.size) ?_).trans (h0.block b hb hn);rintro (h|h|h)
                          · exact hn h
                          · exact e h
                          · have:=HBL.out b (CL.1 h);have:=HVS.out;omega
                      have HNEW:=hid hNEW;have HKN:=hid hKN;have HFA:=hid fA;have HFR:=hid fR;clear hF hG hk9 fA fB fN fR fS fO hHS hNEW hKN hord hg5' hsz9;go_wp2_with fail;exact⟨⟨j+1,ss++[s'],xs++[.pointer (some ⟨B,0,none⟩)],g5.p,g5.c,by simp,by omega,HNXT.out s' rfl,by simp[HSL.out],HFA.out,HFR.out,HNEW.out,HKN.out⟩,by simp only[intOf];omega⟩
                  · have hnl:¬(j:Int)<p.threads.length:=by omega
                    have e:j=p.threads.length:=by omega
                    have haf:allF p=.ok ss:=by rw[HAF2.out,←hf,e,List.take_length]
                    have HALL:=hid haf;have hA2:wr.heap[A2]?=some (.cells #[.int .i64 0,.int .i64 0,.int .i64 0] TFa (0,0)):=(hk.block A2 (by have:=HORD.out;omega) (by have:=HORD.out;omega)).trans HA2.out;clear hf e hrow hscs haf hk hsl;go_upto_region 14 with fail
                    refine wp_ownB (by kernel_rfl) A1 A2 _ _ hA hA2 (by have:=HORD.out;omega) (fun i=>[[],[],[0],[0,1,2]].getD i []) (fun i=>if i=0 then [4] else if i=1 then [5] else if i=2 then [4] else if i=3 then [5] else []) (fun i=>if i=2 then [4] else if i=3 then [5] else []) [2,3] (by kernel_rfl)
                      (fun i=>if i=0 then some (BN (.slice q j c)) else if i=1 then some (BN (.agg #[.int .i64 0,.int .i64 0,.int .i64 0])) else if i=2 then some (CT A1 0 TLp #[.slice q j c]) else if i=3 then some (sPut A2 TFa) else none) ?_
                    refine BE rfl rfl (BY ⟨default,trivial⟩ (fun g _ w w' _ _ _ _ _=>trivial) fun w' hk hav _=>by
                      have h0:w'.heap[A1]?=some (.cells #[.slice q j c] TLp (0,0)):=(hav 4 (by decide)).1;have x0:w'.cell? ⟨A1,0,none⟩=some (.slice q j c):=by simp[World.cell?,h0]
                      exact⟨w',default,trivial,.inl (by go_simp<;>rfl),BA.refl _ _,fun b h=>h.elim,trivial⟩) fun _ _=>?_
                    simp only[BN,Act.put,LS]
                    refine BE rfl rfl (BY ⟨default,trivial⟩ (fun g _ w w' _ _ _ _ _=>trivial) fun w' hk hav _=>by
                      obtain⟨x0,x1,x2,-⟩:=BS (show w'.heap[A2]?=some (.cells #[.int .i64 0,.int .i64 0,.int .i64 0] TFa (0,0)) from(hav 5 (by decide)).1);exact⟨w',default,trivial,.inl (by go_simp<;>rfl),BA.refl _ _,fun b h=>h.elim,trivial⟩) fun _ _=>?_
                    simp only[Act.put,LS];refine BE rfl rfl (CS A1 0 TLp #[.slice q j c] (.slice q j c) (BV rfl rfl) (fun w u hc hf=>by go_simp<;>rfl) 4 (by decide) (by decide) (fun w h=>h) (.inl ⟨rfl,rfl⟩) (by show 0<1;decide)) fun g2 _=>?_;simp only[CT,Act.put];refine BE rfl rfl (loud_put A2 TFa TFa #[.int .i64 0,.int .i64 0,.int .i64 0] _ (.tmp 3) (.tmp 69) rfl rfl rfl 5 (by decide) (by decide) (fun w h=>h) (.inr ⟨rfl,rfl⟩) rfl (by kernel_rfl) (by simp[Value.oneCell'])) fun g3 _=>?_;simp only[Act.put];refine BP ?_;intro W9 hk9 hF _;have f2:W9.heap[A1]?=some (.cells #[.slice q j c] TLp (0,0)):=(hF 2 (by decide)).1 _ (BV rfl rfl);have f3:W9.heap[A2]?=some (.cells #[.int .i64 0,.int .i64 0,.int .i64 0] TFa (0,0)):=(hF 3 (by decide)).1 _ (BV rfl rfl);have hkM:=(BA.drew (fun b=>b=A1∨b=A2) wr).trans hk9
                    have hFIN:AllP w (allF p) (.returned (.tuple #[.slice q j c,.agg #[.int .i64 0,.int .i64 0,.int .i64 0]])) W9:=by
                      have hord:=HORD.out;have hsz:=HK.out.size;refine⟨DL (DL HKV.out HK.out fun b hb=>.inr (by rw[show b=A1 from hb];omega)) hkM fun b hb=>.inr (by omega),?_⟩;rw[HALL.out];have hR9:W9.ownsRow (A2+1) TSp 1 (.slice q j c) j xs:=DK HROW.out fun b hb=>hkM.block b (row_lt HROW.out (CL.1 hb)).2 (by have:=row_lt HROW.out (CL.1 hb);omega);have hS9:ScsAt W9 (fun b=>w.heap.size≤b) xs ss:=(HSCS.out.of_same fun b hb=>hkM.block b hb.2.1 (by omega)).mono fun b hb=>by omega
                      exact⟨q,c,xs,by rw[HSL.out],rd_row hR9,hS9⟩
                    have c0:W9.cell? ⟨A1,0,none⟩=some (.slice q j c):=by simp[World.cell?,f2]
                    obtain⟨d0,d1,d2,-⟩:=BS f3;have HFIN:=hid hFIN;clear hk9 hF hkM hFIN f2 f3;go_wp2_with fail;refine leaves_cons (f:=39) (args:=#[.pointer (some ⟨A1,0,none⟩),.pointer (some ⟨A2,0,none⟩)]) (by simp) (by simp[go_sem]) ?_;refine(catch_nil ⟨A1,0,none⟩ ⟨A2,0,none⟩ _).mono ?_;rintro e u' w9 ⟨rfl,rfl,rfl⟩;exact⟨.tuple #[.slice q j c,.agg #[.int .i64 0,.int .i64 0,.int .i64 0]],by simp[results,Tryz.results25,go_sem,c0,d0,d1,d2],HFIN.out⟩
end Go.Proofs.YtknnmidnodeanaaGreatDoor
