/- Texts joined: WshK, WshL, WshM, WshN, WshO, WshS, RefI, LgA, WshV. -/
import Derived.Test.YtliklcmddmpdfaaGreatDoorPSE
import Derived.Test.YtliklcmddmpdfaaGreatDoorPSB
import Derived.Test.YtliklcmddmpdfaaGreatDoorPSD
import Derived.Test.YtliklcmddmpdfaaGreatDoorPSA
set_option linter.unusedVariables false
set_option linter.unusedSimpArgs false
set_option maxRecDepth 4000
set_option maxHeartbeats 4000000
namespace Go.Proofs.YtliklcmddmpdfaaGreatDoor
open Go.RowKit Go.PW _root_.Go.Proofs.Tryz
theorem sS {w0 w:World} {b1 b2:Nat} {c1 c2:List Value} {T1 T2:TypeId} (h:Ext (λk=>k=b1∨k=b2) w0 w) (h1:(blk b1 c1 T1).ok w0) (h1':(blk b1 c1 T1).ok w) (h2:(blk b2 c2 T2).ok w0) (h2':(blk b2 c2 T2).ok w):Ext No w0 w:=by
 refine⟨h.os,h.tape,h.output,h.size,λk hk _=>?_⟩
 by_cases e1:k=b1
 ·subst e1; exact Eq.trans h1' (Eq.symm h1)
 ·by_cases e2:k=b2
  ·subst e2; exact Eq.trans h2' (Eq.symm h2)
  ·exact h.same k hk λhh=>hh.elim e1 e2
theorem pS {w0 w:World} {H:List Ent} {i b g:Nat} {cs c1:List Value} {T T1:TypeId} (h:St No w0 H w) (hi:H[i]?=some (blk b cs T)) (hg:(blk g c1 T1).ok w0):b≠g:=by
 rintro rfl;exact ((h.ok _ (BW hi)).2 b O).2 (A9.1 hg).1
theorem nz (key content:By) (g:FuncId) (bx:Nat) (cs:List Value) (T:TypeId) (w0:World) (hen:∀args w,(callFunc g args).run Tryz.prog w=.ok (.enter g args) w)
  (hc:∀{M:Nat→Prop} {w0:World} (b:Nat) (v:Value) (ws:World),St M w0 [bld 162 b (.pointer none) v [],blk bx cs T] ws→Ret Tryz.prog g ([pq b]++[pq bx]).toArray ws λu w=>u=.tuple #[]∧∃v2,St M w0 [bld 162 b (pq b) v2 content,blk bx cs T] w)
  (hne:content≠[]) (hkl:key.length≤40000000) (hcl:content.length≤40000000) (hk0:(blk 0 (kOf.map wv) 258).ok w0) (hbx:(blk bx cs T).ok w0) (hgb:bx≠0):
  Ff 86 #[sv key,.func (.func g) #[] #[pq bx]] w0 (sv (sealH key content)):=by
 have U:St (λk=>k=0∨k=bx) w0 [(blk 0 (kOf.map wv) 258),blk bx cs T] w0:=by
  refine⟨Ext.refl _ _,λe he=>?_,?_⟩
  ·simp only[A0,A4,Bm] at he;rcases he with rfl|rfl
   ·exact⟨hk0,λk hk=>by cases hk; exact⟨(A9.1 hk0).1,λ_=>.inl O⟩⟩
   ·exact⟨hbx,λk hk=>by cases hk; exact⟨(A9.1 hbx).1,λ_=>.inr O⟩⟩
  ·refine List.Pairwise.cons (λe he k hk hk'=>?_) (List.pairwise_singleton _ _);simp only[A0,A4,Bm] at he;subst he;cases hk;exact hgb (Eq.symm hk')
 exact (pQ key content g [pq bx] (blk bx cs T) w0 hen hc hne hkl hcl U).mono λv w ⟨h1,h2⟩=>⟨h1,sS h2.ext hk0 (h2.get (k:=0) O) hbx (h2.get (k:=1) O)⟩
theorem rB:∀{l:List Pxy} {k i:Nat},badIdx l k=some i→k≤i∧i- k<l.length∧(l.getD (i- k) Pxy.z).ok=false∧∀j,j<i- k→(l.getD j Pxy.z).ok=true
 | [],k,i,h=>by cases h
 | p::l,k,i,h=>by
  rw[badIdx] at h;split at h
  ·rename_i hp;obtain⟨h1,h2,h3,h4⟩:=rB h;have e:i- k=(i- (k+1))+1:=by omega
   refine⟨by omega,by simp; omega,by rw[e]; exact h3,λj hj=>?_⟩;cases j with
   | zero=>exact hp
   | succ j=>exact h4 j om
  ·rename_i hp;cases h;refine⟨Bs _,by simp,by rw[Cr]; simpa using hp,λj hj=>by omega⟩
theorem lj (l:List Pxy):badN l=match badIdx l 0 with|some i=>(i:Int)|none=> -1:=by
 cases h:badIdx l 0 with
 | none=>
  refine fE λj hj=>?_;rw[dr h _ (bf hj)]; rfl
 | some i=>
  obtain⟨_,h2,h3,h4⟩:=rB h;rw[Nat.sub_zero] at h2 h3 h4;exact fF h2 (λj hj=>by rw[h4 j hj]; rfl) (by rw[h3]; rfl)
theorem ry {l:List Pxy} (h:badN l<0):badIdx l 0=none:=by
 rw[lj] at h;cases hb:badIdx l 0 with
 | none=>rfl
 | some i=>rw[hb] at h; simp only at h; omega
theorem sJ (x:Wsh) (l:List Pxy):(x.ok&&decide ((l.length:Int)≤4)&&decide (badN l<0))=cf x l:=by
 unfold cf;rw[lj];congr 1
 ·congr 1;exact decide_eq_decide.2 om
 ·cases badIdx l 0 with
  | none=>rfl
  | some i=>exact AV (by simp only; omega)
section
variable {ks:List By} {x:Wsh} {ps:List Pxy} {number t:Int}
abbrev formB (ks:List By) (x:Wsh) (ps:List Pxy):Prop:=64<ks.length∨(ks.all λs=>decide (s.length=32))=false∨x.ok=false∨4<ps.length
theorem gR:(ks.any λs=>!decide ((s.length:Int)=32))=!(ks.all λs=>decide (s.length=32)):=by
 rw[List.all_eq_not_any_not,Bool.not_not];congr 1
 funext s
 congr 1;exact decide_eq_decide.2 om
theorem ul (h:¬formB ks x ps):∀s∈ks,s.length=32:=by
 have:(ks.all λs=>decide (s.length=32))=true:=by
  cases hh:(ks.all λs=>decide (s.length=32)) with
  | true=>rfl
  | false=>exact absurd (.inr (.inl hh)) h
 intro s hs;exact of_decide_eq_true (Be.1 this s hs)
theorem ef (h:formB ks x ps):whyH ks x ps number t=(1, -1):=by unfold whyH; rw[Bi h]
theorem uj (h:¬formB ks x ps) (hb:0≤badN ps):whyH ks x ps number t=(1,badN ps):=by
 unfold whyH; rw[Bc h];rw[lj] at hb⊢;cases he:badIdx ps 0 with
 | none=>rw[he] at hb; simp only at hb; omega
 | some i=>rfl
def whyP (ks:List By) (x:Wsh) (ps:List Pxy) (number t:Int):Prop:=¬formB ks x ps∧badIdx ps 0=none∧inB t x.sf (x.st- 1)=true∧inB number x.rf (x.rt- 1)=true
theorem gL (h:¬formB ks x ps) (hb:badIdx ps 0=none) (ht:inB t x.sf (x.st- 1)=false):whyH ks x ps number t=(2, -1):=by
 unfold whyH; rw[Bc h,hb]; simp only; rw[Bi ht]
theorem j0 (h:¬formB ks x ps) (hb:badIdx ps 0=none) (ht:inB t x.sf (x.st- 1)=true) (hn:inB number x.rf (x.rt- 1)=false):whyH ks x ps number t=(3, -1):=by
 unfold whyH; rw[Bc h,hb]; simp only; rw[Bc EP,Bi hn]
theorem ij {i:Int} (h:whyP ks x ps number t) (hc:bN x.signer x.holder ps 0=some i):whyH ks x ps number t=(4,i):=by
 obtain⟨h,hb,ht,hn⟩:=h;unfold whyH; rw[Bc h,hb]; simp only; rw[Bc EP,Bc (by rw[hn]; decide),hc]
theorem ik {i:Int} (h:whyP ks x ps number t) (hc:bN x.signer x.holder ps 0=none) (hs:bt x none ps 0=some i):whyH ks x ps number t=(5,i):=by
 obtain⟨h,hb,ht,hn⟩:=h;unfold whyH; rw[Bc h,hb]; simp only; rw[Bc EP,Bc (by rw[hn]; decide),hc]; simp only; rw[hs]
theorem eq {i:Int} (h:whyP ks x ps number t) (hc:bN x.signer x.holder ps 0=none) (hs:bt x none ps 0=none) (hl:bU ks x ps 0=some i):whyH ks x ps number t=(6,i):=by
 obtain⟨h,hb,ht,hn⟩:=h;unfold whyH; rw[Bc h,hb]; simp only; rw[Bc EP,Bc (by rw[hn]; decide),hc]; simp only; rw[hs]; simp only; rw[hl]
theorem ju (h:whyP ks x ps number t) (hc:bN x.signer x.holder ps 0=none) (hs:bt x none ps 0=none) (hl:bU ks x ps 0=none):whyH ks x ps number t=(0, -1):=by
 obtain⟨h,hb,ht,hn⟩:=h;unfold whyH; rw[Bc h,hb]; simp only; rw[Bc EP,Bc (by rw[hn]; decide),hc]; simp only; rw[hs]; simp only; rw[hl]
def okQ (ps:List Pxy) (sg:Int) (z:Int × Int):Bool:=if 0≤z.1 then decide ((ps.getD z.1.toNat Pxy.z).frm=z.2) else decide (sg=z.2)
theorem yJ {sg:Int} {z:Int × Int} (h:0≤z.1) (h2:(ps.getD z.1.toNat Pxy.z).frm=z.2):okQ ps sg z=true:=by unfold okQ; rw[Bi h]; exact AQ h2
theorem z6 {sg:Int} {z:Int × Int} (h:¬0≤z.1) (h2:sg=z.2):okQ ps sg z=true:=by unfold okQ; rw[Bc h]; exact AQ h2
theorem zE {sg:Int} {z:Int × Int} (h:0≤z.1) (h2:¬(ps.getD z.1.toNat Pxy.z).frm=z.2):okQ ps sg z=false:=by unfold okQ; rw[Bi h]; exact AV h2
theorem zo {sg:Int} {z:Int × Int} (h:¬0≤z.1) (h2:¬sg=z.2):okQ ps sg z=false:=by unfold okQ; rw[Bc h]; exact AV h2
theorem iW {sg:Int}:∀(l:List Pxy) (k:Nat) (who:Int),l=ps.drop k→bN sg who l k=((pers who l k).find? λz=>!okQ ps sg z).map (·.1)
 | [],k,who,h=>by
  rw[bN,pers,List.find?_cons,List.find?_nil];unfold okQ;rw[Bc (show ¬(0:Int)≤ -1 by decide)]
  by_cases hs:sg=who
  ·rw[Bi hs,AQ hs]; rfl
  ·rw[Bc hs,AV hs]; rfl
 | p::l,k,who,h=>by
  have hp:ps.getD k Pxy.z=p:=by rw[AY,show ps[k]?=some p from by rw[←List.head?_drop,←h]; rfl]; rfl
  have hl:l=ps.drop (k+1):=by rw[←Cm,←h,List.drop_one]; rfl
  rw[bN,pers,List.find?_cons,iW l (k+1) p.to hl];unfold okQ;rw[Bi (Int.natCast_nonneg k),BD,hp]
  by_cases hs:p.frm=who
  ·rw[Bi hs,AQ hs]; rfl
  ·rw[Bc hs,AV hs]; rfl
theorem qm {who:Int}:∀{l:List Pxy} {k:Nat} {who:Int} {z:Int × Int},z∈pers who l k→z.1<((k+l.length:Nat):Int)∧ -1≤z.1
 | [],k,who,z,h=>by
  rw[pers,Bl] at h;subst h;exact⟨by simp only; omega,by simp only; omega⟩
 | p::l,k,who,z,h=>by
  rw[pers] at h;rcases A0.1 h with rfl|h
  ·exact⟨by simp only[A3]; omega,by simp only; omega⟩
  ·have:=qm (who:=who) h;rw[A3];exact⟨by omega,this.2⟩
theorem uf {who:Int} {pre:List (Int × Int)} {z:Int × Int} (h:NxQ who ps pre z):z.1<(ps.length:Int):=by
 obtain⟨suf,h⟩:=h;have:=(qm (who:=who) (l:=ps) (k:=0) (z:=z) (by rw[h]; simp)).1;rwa [Nat.zero_add] at this
theorem ui {sg:Int} {pre:List (Int × Int)} {z:Int × Int} (h:∀y∈pre,okQ ps sg y=true) (hz:okQ ps sg z=true):∀y∈pre++[z],okQ ps sg y=true:=by
 intro y hy;rcases BO.1 hy with h1|h1
 ·exact h y h1
 ·rw[Bl.1 h1]; exact hz
theorem ov {sg who:Int} {pre:List (Int × Int)} {z:Int × Int} (hn:NxQ who ps pre z) (h:∀y∈pre,okQ ps sg y=true) (hz:okQ ps sg z=false):bN sg who ps 0=some z.1:=by
 obtain⟨suf,e⟩:=hn;rw[iW ps 0 who rfl,e,List.find?_append,Cd.2 (λy hy=>by rw[h y hy]; simp),Option.none_or,List.find?_cons,hz];rfl
theorem uZ {sg who:Int} (h:∀y∈pers who ps 0,okQ ps sg y=true):bN sg who ps 0=none:=by
 rw[iW ps 0 who rfl,Cd.2 (λy hy=>by rw[h y hy]; simp)];rfl
theorem Pxy.ok_frm {p:Pxy} (h:p.ok=true):0≤p.frm∧p.frm≤63:=by
 simp only[Pxy.ok,inB,AU,AZ] at h; omega
theorem Wsh.ok_signer {x:Wsh} (h:x.ok=true):0≤x.signer∧x.signer≤63:=by
 simp only[Wsh.ok,inB,AU,AZ] at h; omega
theorem Wsh.ok_bnd {x:Wsh} (h:x.ok=true):0≤x.rf∧x.rf<x.rt∧x.rt≤100000000∧0≤x.sf∧x.sf<x.st∧x.st≤10000001:=by
 simp only[Wsh.ok,cG,di,AU,AZ] at h; omega
theorem jW {n:Int} (h0:0≤n) (h1:n.toNat<ks.length):keyAt ks n=some (ks.getD n.toNat []):=by
 unfold keyAt; rw[Bc om,AY,A2 h1]; rfl
theorem oJ {n:Int} (h0:0≤n) (h1:ks.length≤n.toNat):keyAt ks n=none:=by
 unfold keyAt; rw[Bc om,Ck h1]
theorem nB {k:Nat} (hk:k<ps.length) (h0:0≤(ps.getD k Pxy.z).frm) (h1:(ps.getD k Pxy.z).frm.toNat<ks.length) (h2:(ps.getD k Pxy.z).sig=sealH (ks.getD (ps.getD k Pxy.z).frm.toNat []) (ps.getD k Pxy.z).content):
  bU ks x (ps.drop k) k=bU ks x (ps.drop (k+1)) (k+1):=by
 rw[dz Pxy.z hk,bU,jW h0 h1,Bi];exact AQ h2
theorem jS {k:Nat} (hk:k<ps.length) (h0:0≤(ps.getD k Pxy.z).frm) (h1:ks.length≤(ps.getD k Pxy.z).frm.toNat):bU ks x (ps.drop k) k=some (k:Int):=by
 rw[dz Pxy.z hk,bU,oJ h0 h1,Bc]; simp
theorem jL {k:Nat} (hk:k<ps.length) (h0:0≤(ps.getD k Pxy.z).frm) (h1:(ps.getD k Pxy.z).frm.toNat<ks.length) (h2:¬(ps.getD k Pxy.z).sig=sealH (ks.getD (ps.getD k Pxy.z).frm.toNat []) (ps.getD k Pxy.z).content):
  bU ks x (ps.drop k) k=some (k:Int):=by
 rw[dz Pxy.z hk,bU,jW h0 h1,Bc];rw[Option.any_some,AV h2]; simp
theorem io {k:Nat} (h0:0≤x.signer) (h1:ks.length≤x.signer.toNat):bU ks x [] k=some (-1):=by
 rw[bU,oJ h0 h1,Bc]; simp
theorem g8 {k:Nat} (h0:0≤x.signer) (h1:x.signer.toNat<ks.length) (h2:¬x.sig=sealH (ks.getD x.signer.toNat []) x.content):bU ks x [] k=some (-1):=by
 rw[bU,jW h0 h1,Bc];rw[Option.any_some,AV h2]; simp
theorem oV {k:Nat} (h0:0≤x.signer) (h1:x.signer.toNat<ks.length) (h2:x.sig=sealH (ks.getD x.signer.toNat []) x.content):bU ks x [] k=none:=by
 rw[bU,jW h0 h1,Bi];exact AQ h2
end
theorem xO {x:Wsh} {ps:List Pxy} (h:(scopeV x ps).2=false):bt x none ps 0=none:=by
 unfold scopeV at h;cases hs:bt x none ps 0 with
 | none=>rfl
 | some n=>rw[hs] at h; cases h
theorem uF {x:Wsh} {ps:List Pxy} (h:(scopeV x ps).2=true):bt x none ps 0=some (scopeV x ps).1:=by
 unfold scopeV at h⊢;cases hs:bt x none ps 0 with
 | none=>rw[hs] at h; cases h
 | some n=>rfl
theorem Ai (kv lv:Value) (ks:List By) (x:Wsh) (ps:List Pxy) (number t:Int) (w0:World) (hkv:SlAt w0 kv 1 (ks.map λs=>[sv s])) (hlv:SlAt w0 lv 7 (ps.map Pxy.cells)) (hk0:(blk 0 (kOf.map wv) 258).ok w0):
  Ff 103 #[kv,(EW x),lv,jv number,jv t] w0 (.tuple #[jv (whyH ks x ps number t).1,jv (whyH ks x ps number t).2]):=by
 have hxb:=hlv.2.1;simp only[AP,big] at hxb;have hyb:=hkv.2.1;simp only[AP,big] at hyb;refine CA func103 O ntmps103 (lb O) λa Y U=>aa λG1=>aR Y U O (EV x) O λa w1 Y U=>aR Y U O [lv] (by rw[(U.arg hlv).cells]) λa w2 Y U=>aE Y U (zeroValue3 _) [jv 0] O λa w3 Y U=>aE Y U (zeroValue3 _) [jv 0] O λa w4 Y U=>G1<|aa λG2=>wla Y O λa Y=>G2<|ah λG3=>aa λG4=>nv Y<|AL O<|AK ((aH (sT:=44) (U.arg hkv) O O (runUnderlying44 _)).asi (m':=(ks.length:Int)) CU)<|AK (v_gt O O)<|AL O<|λa Y=>?_;rcases Decidable.em (64<(ks.length:Int)) with hb1|hb1
 ·rw[AQ hb1] at Y;refine nv Y<|AO<|AO<|AO<|AK (aq O O)<|AL O<|AO<|AO<|AO<|AK (aq O O)<|AL O<|AO<|AO<|AO<|AK (aq O O)<|λa Y=>G4 ?_;replace Y:=Y.p8 0 3 4 6 7 10 11 37 O;refine aC Y O ?_;refine aa λG5=>aA 1 Y U [jv 1] O (sizeOf3 _) λa w5 Y U=>aA 0 Y U [jv (-1)] O (sizeOf3 _) λa w6 Y U=>G5<|ao<|am Y results103 (aB O (br (U.g 1 O) (isAgg3 _)) (aB O (br (U.g 0 O) (isAgg3 _)) ag)) ?_;exact⟨by rw[ef (by unfold formB; first|exact .inl om|exact .inr (.inr (.inr om))|exact .inr (.inr (.inl hb1))|exact .inr (.inl (by rw[gR] at hb1; simpa using hb1)))]; rfl,U.ext⟩
 rw[AV hb1] at Y;refine nv Y<|AN (ax O)<|AN (ax O)<|λa Y=>aF Y U call146 O (tP (λs=>!decide ((s.length:Int)=32)) _ call145 (U.arg hkv) (λx w _=>yW x w)) λa w7 Y U=>nv Y<|AK (ak O O)<|AL O<|λa Y=>?_;rcases AR (ks.any λs=>!decide ((s.length:Int)=32)) with hb2|hb2
 ·rw[hb2] at Y
  try simp only[qz] at hb2
  refine nv Y<|AO<|AO<|AO<|AK (aq O O)<|AL O<|AO<|AO<|AO<|AK (aq O O)<|λa Y=>G4 ?_;replace Y:=Y.p8 0 3 4 6 7 10 11 37 O;refine aC Y O ?_;refine aa λG6=>aA 1 Y U [jv 1] O (sizeOf3 _) λa w8 Y U=>aA 0 Y U [jv (-1)] O (sizeOf3 _) λa w9 Y U=>G6<|ao<|am Y results103 (aB O (br (U.g 1 O) (isAgg3 _)) (aB O (br (U.g 0 O) (isAgg3 _)) ag)) ?_;exact⟨by rw[ef (by unfold formB; first|exact .inl om|exact .inr (.inr (.inr om))|exact .inr (.inr (.inl hb2))|exact .inr (.inl (by rw[gR] at hb2; simpa using hb2)))]; rfl,U.ext⟩
 rw[hb2] at Y
 try simp only[qz] at hb2
 refine wly Y (ar (U.g 3 O) O (isAgg90 _) (sizeOf90 _)) λa Y=>aF Y U call85 O (kp x _) λa w10 Y U=>nv Y<|AN (bd O)<|AK (ak O O)<|AL O<|λa Y=>?_;rcases AR (!x.ok) with hb3|hb3
 ·rw[hb3] at Y
  try simp only[qz] at hb3
  refine nv Y<|AO<|AO<|AO<|AK (aq O O)<|λa Y=>G4 ?_;replace Y:=Y.p8 0 3 4 6 7 10 11 37 O;refine aC Y O ?_;refine aa λG7=>aA 1 Y U [jv 1] O (sizeOf3 _) λa w11 Y U=>aA 0 Y U [jv (-1)] O (sizeOf3 _) λa w12 Y U=>G7<|ao<|am Y results103 (aB O (br (U.g 1 O) (isAgg3 _)) (aB O (br (U.g 0 O) (isAgg3 _)) ag)) ?_;exact⟨by rw[ef (by unfold formB; first|exact .inl om|exact .inr (.inr (.inr om))|exact .inr (.inr (.inl hb3))|exact .inr (.inl (by rw[gR] at hb3; simpa using hb3)))]; rfl,U.ext⟩
 rw[hb3] at Y
 try simp only[qz] at hb3
 refine nv Y<|AN (ld U 2 O O (isAgg91 _) O)<|AN ((aH (sT:=91) (U.arg hlv) O O (runUnderlying91 _)).asi (m':=(ps.length:Int)) CU)<|AN (v_gt O O)<|AK (ak O O)<|λa Y=>G4 ?_;replace Y:=Y.p8 0 3 4 6 7 10 11 37 O;refine ay Y O (λhc4=>?_) (λhc4=>?_)
 ·refine aa λG8=>aA 1 Y U [jv 1] O (sizeOf3 _) λa w13 Y U=>aA 0 Y U [jv (-1)] O (sizeOf3 _) λa w14 Y U=>G8<|ao<|am Y results103 (aB O (br (U.g 1 O) (isAgg3 _)) (aB O (br (U.g 0 O) (isAgg3 _)) ag)) ?_;exact⟨by rw[ef (by unfold formB; first|exact .inl om|exact .inr (.inr (.inr om))|exact .inr (.inr (.inl hc4))|exact .inr (.inl (by rw[gR] at hc4; simpa using hc4)))]; rfl,U.ext⟩
 refine ap<|G3<|ah λG9=>?_;have hxo:x.ok=true:=hb3
 have hnf:¬formB ks x ps:=by
  rintro (h|h|h|h)
  ·omega
  ·rw[gR,h] at hb2; simp at hb2
  ·rw[hxo] at h; cases h
  ·omega
 have hk32:=ul hnf;have hxd:=Wsh.ok_bnd hxo;have hxg:=Wsh.ok_signer hxo;refine aa λG10=>wlv Y (ld U 2 O O (isAgg91 _) O) λa Y=>au Y U call140 O (kP lv ps _ (U.arg hlv)) λa w15 Y U=>wla Y O λa Y=>G10<|aa λG11=>nv Y<|AL O<|AK (v_ge O O)<|λa Y=>G11<|ay Y O (λhc5=>?_) (λhc5=>?_)
 ·refine aa λG12=>wlm Y O λa Y=>aA 1 Y U [jv 1] O (sizeOf3 _) λa w16 Y U=>aA 0 Y U [jv (badN ps)] O (sizeOf3 _) λa w17 Y U=>G12 ?_;replace Y:=Y.p7 0 3 4 6 7 10 11 O;refine ao<|am Y results103 (aB O (br (U.g 1 O) (isAgg3 _)) (aB O (br (U.g 0 O) (isAgg3 _)) ag)) ?_;exact⟨by rw[uj hnf hc5]; rfl,U.ext⟩
 refine ap<|G9<|ah λG13=>?_;have hbn:=ry (l:=ps) om;refine aa λG14=>nv Y<|AL O<|AK (ac (v:=po w0.hz 6) O kr)<|AK (ac (v:=po w0.hz 6) O kr)<|AK (ld U 3 O O (isAgg3 _) O)<|AK (ac (v:=po w0.hz 6) O kr)<|AK (ac (v:=po w0.hz 7) O kr)<|AK (ld U 3 O O (isAgg3 _) O)<|AK (bF O O ⟨om,om⟩)<|λa Y=>au Y U call100 O (dg t x.sf (x.st- 1) _) λa w18 Y U=>wlv Y (bd O) λa Y=>G14 ?_;replace Y:=Y.p7 0 3 6 7 10 11 52 O;refine bn Y O (λhc6=>?_) (λhc6=>?_)
 ·try simp only[qz] at hc6
  refine aa λG15=>aA 1 Y U [jv 2] O (sizeOf3 _) λa w19 Y U=>aA 0 Y U [jv (-1)] O (sizeOf3 _) λa w20 Y U=>G15<|ao<|am Y results103 (aB O (br (U.g 1 O) (isAgg3 _)) (aB O (br (U.g 0 O) (isAgg3 _)) ag)) ?_;exact⟨by rw[gL hnf hbn hc6]; rfl,U.ext⟩
 try simp only[qz] at hc6
 refine ap<|G13<|ah λG16=>aa λG17=>nv Y<|AL O<|AK (ac (v:=po w0.hz 2) O kr)<|AK (ac (v:=po w0.hz 2) O kr)<|AK (ld U 3 O O (isAgg3 _) O)<|AK (ac (v:=po w0.hz 2) O kr)<|AK (ac (v:=po w0.hz 3) O kr)<|AK (ld U 3 O O (isAgg3 _) O)<|AK (bF O O ⟨om,om⟩)<|λa Y=>au Y U call100 O (dg number x.rf (x.rt- 1) _) λa w21 Y U=>wlv Y (bd O) λa Y=>G17 ?_;replace Y:=Y.p6 0 6 7 10 11 62 O;refine bn Y O (λhc7=>?_) (λhc7=>?_)
 ·try simp only[qz] at hc7
  refine aa λG18=>aA 1 Y U [jv 3] O (sizeOf3 _) λa w22 Y U=>aA 0 Y U [jv (-1)] O (sizeOf3 _) λa w23 Y U=>G18<|ao<|am Y results103 (aB O (br (U.g 1 O) (isAgg3 _)) (aB O (br (U.g 0 O) (isAgg3 _)) ag)) ?_;exact⟨by rw[j0 hnf hbn hc6 hc7]; rfl,U.ext⟩
 try simp only[qz] at hc7
 refine ap<|G16<|ah λG19=>?_;have hwp:whyP ks x ps number t:=⟨hnf,hbn,hc6,hc7⟩;refine aa λG20=>nv Y<|AK (ac (v:=po w0.hz 1) O kr)<|AK (ld U 3 O O (isAgg3 _) O)<|AK (ld U 2 O O (isAgg91 _) O)<|λa Y=>bp Y U call147 O (tw x.holder lv ps _ (U.arg hlv)) λa w24 x8 hp Y U=>?_;obtain⟨bh,bl⟩:=x8;clear hp
 try dsimp only at U
 replace U:=U.n6 O;refine G20<|aw ?_;replace U:=U.s6 [5,4,3,2,1,0] de rfl;replace Y:=Y.p9 0 6 7 10 11 63 64 65 66 O;refine dR (M:=No) (w0:=w0) (encs:=encQ) (Hi:=[blk bh [jv x.holder] 3,blk bl [lv] 91]) (Hc:=[blk w0.hz (EV x) 90,blk w1.hz [lv] 91,blk w2.hz [jv 0] 3,blk w3.hz [jv 0] 3]) (λpre H=>(∀z∈pre,okQ ps x.signer z=true)∧H=[blk w0.hz (EV x) 90,blk w1.hz [lv] 91,blk w2.hz [jv 0] 3,blk w3.hz [jv 0] 3]) (λc pre H=>c=.ret∧∃(i:Int),(bN x.signer x.holder ps 0=some i)∧H=[blk w0.hz (EV x) 90,blk w1.hz [lv] 91,blk w2.hz [jv 4] 3,blk w3.hz [jv i] 3]) (λpre xs H a=>Fr 142 [(6,pq w0.hz),(7,pq w1.hz),(10,pq w2.hz),(11,pq w3.hz),(14,jv xs.1),(15,jv xs.2)] [] a∧(∀z∈pre,okQ ps x.signer z=true)∧H=[blk w0.hz (EV x) 90,blk w1.hz [lv] 91,blk w2.hz [jv 0] 3,blk w3.hz [jv 0] 3]) O call183 Y U (pB x.holder lv ps bh bl (λH w h=>h.arg hlv)) de (λ_=>O) ⟨sm,O⟩ ?_ ?_ ?_ ?_
 ·clear Y U;rintro lp pre xs _ a w25 hnx ⟨hpq,rfl⟩ Y U;generalize (join [blk w0.hz (EV x) 90,blk w1.hz [lv] 91,blk w2.hz [jv 0] 3,blk w3.hz [jv 0] 3]).foot=M1 at U⊢;refine aa λG21=>wla (Y.p11 68 67 0 6 7 10 11 63 64 65 66 O) O λa Y=>G21 ?_;refine al<|wla (Y.p6 68 6 7 10 11 14 O) O λa Y=>ab ?_;exact⟨_,⟨Y.pick [6,7,10,11,14,15],hpq,O⟩,U⟩
 ·rintro lp pre xs _ a w26 hnx ⟨Y,hpq,rfl⟩ hout hrec hnl U;clear hrec hnl;generalize (join [blk w0.hz (EV x) 90,blk w1.hz [lv] 91,blk w2.hz [jv 0] 3,blk w3.hz [jv 0] 3]).foot=M1 at U hout⊢;refine aw<|aa λG22=>nv Y<|AL O<|AK (v_ge O O)<|AL O<|λa Y=>?_;rcases Decidable.em (0≤xs.1) with hb9|hb9
  ·rw[AQ hb9] at Y;have hqlt:=uf hnx;refine nv Y<|AN (ld U 1 O O (isAgg91 _) O)<|AN (ax O)<|AN ((ai (i:=xs.1) (sT:=91) (hlv.grow (hout _ U.ext)) O O (runUnderlying91 _) (sizeOf144 _) om CH).as (v':=slAddr lv (xs.1.toNat*7)) (by rw[show (xs.1).toNat=xs.1.toNat from by omega]))<|AN (aQ (k:=xs.1.toNat*7) (j:=0) (hlv.grow (hout _ U.ext)) (i:=xs.1.toNat) CH O (λ_ _=>by kernel_rfl))<|AN (az (u:=jv ((ps.getD xs.1.toNat Pxy.z).frm)) (i:=xs.1.toNat) (j:=0) (hlv.grow (hout _ U.ext)) CH O (isAgg3 _) C4)<|AN (ax O)<|AN (v_ne O O)<|AK (aq O O)<|AL O<|λa Y=>?_;rcases (Decidable.em ((ps.getD xs.1.toNat Pxy.z).frm=xs.2)).symm with hb10|hb10
   ·rw[AV hb10] at Y;refine nv Y<|AO<|AO<|AO<|λa Y=>bO Y λa Y=>bO Y λa Y=>bO Y λa Y=>bO Y λa Y=>nv Y<|AO<|AK (aq O O)<|λa Y=>G22 ?_;replace Y:=Y.p4 10 11 14 89 O;refine aC Y O ?_;refine aa λG23=>wlm Y O λa Y=>aA 2 Y U [jv 4] O (sizeOf3 _) λa w27 Y U=>aA 3 Y U [jv xs.1] O (sizeOf3 _) λa w28 Y U=>G23<|ao ?_;exact⟨_,⟨O,xs.1,ov hnx hpq (zE hb9 hb10),O⟩,U.select [0,1,2,3] de⟩
   rw[AQ hb10] at Y;refine nv Y<|AN (ax O)<|AN ((v_lt O O).asb (b':=false) DA)<|AN (ax O)<|AO<|AO<|AO<|AO<|AN (ak O O)<|AK (ak O O)<|λa Y=>G22 ?_;replace Y:=Y.p4 10 11 14 89 O;refine aJ Y O ?_;refine ap ?_;exact⟨_,⟨ui hpq (yJ hb9 hb10),O⟩,U.select [0,1,2,3] de⟩
  rw[AV hb9] at Y;have hqlt:=uf hnx;refine nv Y<|AO<|AO<|AO<|AO<|AO<|AO<|AO<|AK (ak O O)<|AL O<|AN (ax O)<|AN ((v_lt O O).asb (b':=true) (by exact AQ om))<|AN (ax O)<|AN (ac (v:=pq w0.hz) O kr)<|AN (ld U 0 O O (isAgg3 _) O)<|AN (ax O)<|AN (v_ne O O)<|AN (aq O O)<|AK (ak O O)<|λa Y=>G22 ?_;replace Y:=Y.p4 10 11 14 89 O;refine bV Y O (λhc11=>?_) (λhc11=>?_)
  ·refine aa λG24=>wlm Y O λa Y=>aA 2 Y U [jv 4] O (sizeOf3 _) λa w29 Y U=>aA 3 Y U [jv xs.1] O (sizeOf3 _) λa w30 Y U=>G24<|ao ?_;exact⟨_,⟨O,xs.1,ov hnx hpq (zo om hc11),O⟩,U.select [0,1,2,3] de⟩
  refine ap ?_;exact⟨_,⟨ui hpq (z6 om hc11),O⟩,U.select [0,1,2,3] de⟩
 ·rintro D pre _ _ a w31 ⟨rfl,rfl⟩ ⟨hpq,rfl⟩ U Y;replace Y:=Y.p9 0 6 7 10 11 63 64 65 66 O;replace U:=U.n7 O;refine G19<|ah λG25=>?_;have hch:=uZ hpq;refine aa λG26=>nv Y<|AK (ar (U.g 1 O) O (isAgg90 _) (sizeOf90 _))<|AK (ld U 2 O O (isAgg91 _) O)<|λa Y=>au Y U call148 O (yt x lv ps _ (U.arg hlv)) λa w32 Y U=>nv Y<|AL O<|AK (aj O O)<|AK (aj O O)<|AM O<|AM O<|λa Y=>G26 ?_;replace Y:=Y.p7 0 6 7 10 11 16 17 O;refine aa λG27=>wlm Y O λa Y=>G27<|bn Y O (λhc12=>?_) (λhc12=>?_)
  ·refine aa λG28=>wlm Y O λa Y=>aA 3 Y U [jv 5] O (sizeOf3 _) λa w33 Y U=>aA 4 Y U [jv ((scopeV x ps).1)] O (sizeOf3 _) λa w34 Y U=>G28<|ao ?_;have hD:=U.g 0 rfl;replace U:=U.unmark (i:=0) (o':=.deferred none) O;replace U:=U.n6 O;refine cF Y hD results103 (aB O (br (U.g 2 O) (isAgg3 _)) (aB O (br (U.g 3 O) (isAgg3 _)) ag)) ?_;exact⟨by rw[ik hwp hch (uF hc12)]; rfl,U.ext⟩
  refine ap<|G25<|ah λG29=>?_;have hsc:bt x none ps 0=none:=xO hc12;refine aa λG30=>nv Y<|AK (ld U 2 O O (isAgg91 _) O)<|AK ((aH (sT:=91) (U.arg hlv) O O (runUnderlying91 _)).asi (m':=(ps.length:Int)) CU)<|AL O<|λa Y=>G30<|aw<|aV (λm a w=>∃(k:Nat),m=ps.length- k∧(k≤ps.length)∧(bU ks x ps 0=bU ks x (ps.drop k) k)∧Fr 142 [(0,kv),(6,pq w0.hz),(10,pq w2.hz),(11,pq w3.hz),(99,lv),(100,jv (ps.length:Int)),(101,jv (k:Int))] [{target:=.collected D,args:=#[]}] a∧St No w0 [obj D (.deferred (some [])),blk w0.hz (EV x) 90,blk w1.hz [lv] 91,blk w2.hz [jv 0] 3,blk w3.hz [jv 0] 3,blk bh [jv x.holder] 3,blk bl [lv] 91] w) _ ⟨0,O,A8 _,O,Y.pick [0,6,10,11,99,100,101],U.select [0,1,2,3,4,5,6] de⟩ ?_;rintro _ a w35 ⟨k,rfl,hk,hsb,Y,U⟩;refine aa λG31=>wlv Y (v_lt O O) λa Y=>G31<|ah λG32=>ay Y O (λhc13=>?_) (λhc13=>?_)
  ·have hkx:k<ps.length:=by omega
   have hpk:=dr hbn _ (bf (d:=Pxy.z) hkx);have hp0:=Pxy.ok_frm hpk;refine ap<|G32<|ah λG33=>aw<|aa λG34=>nv Y<|AL O<|AK ((ai (i:=(k:Int)) (sT:=91) (U.arg hlv) O O (runUnderlying91 _) (sizeOf144 _) om CH).as (v':=slAddr lv (k*7)) O)<|AK ((bI (U.arg hlv) (i:=k) CH O (isAgg144 _) (sizeOf144 _)).as (v':=.agg #[jv ((ps.getD k Pxy.z).frm),jv ((ps.getD k Pxy.z).to),jv ((ps.getD k Pxy.z).rf),jv ((ps.getD k Pxy.z).rt),jv ((ps.getD k Pxy.z).sf),jv ((ps.getD k Pxy.z).st),sv ((ps.getD k Pxy.z).sig)]) C4)<|λa Y=>aE Y U (zeroValue144 _) E6 O λa w36 Y U=>wla Y O λa Y=>aA 0 Y U [jv ((ps.getD k Pxy.z).frm),jv ((ps.getD k Pxy.z).to),jv ((ps.getD k Pxy.z).rf),jv ((ps.getD k Pxy.z).rt),jv ((ps.getD k Pxy.z).sf),jv ((ps.getD k Pxy.z).st),sv ((ps.getD k Pxy.z).sig)] O (sizeOf144 _) λa w37 Y U=>G34 ?_;replace Y:=Y.p9 0 6 10 11 99 100 101 19 18 O;refine ah λG35=>aL (aM λw38 hxz=>?_);replace U:=U.grow hxz;refine aP (k:=0) 4 [1,3] Y ?_;refine bB 4 (Y.p9 0 6 10 11 99 100 101 19 18 O) U<|pl_v (ac (v:=pq w35.hz) O kr)<|pl_w (λU=>ld U 0 O O (isAgg3 _) O)<|pl_m O<|pl_w (λU=>(aH (sT:=44) (U.arg hkv) O O (runUnderlying44 _)).asi (m':=(ks.length:Int)) CU) λa w39 Y U=>ab<|aI (k:=4) 6 [5] ?_;refine nv Y<|AK (v_ge O O)<|AL O<|λa Y=>ab ?_;rcases Decidable.em ((ks.length:Int)≤(ps.getD k Pxy.z).frm) with hb14|hb14
   ·rw[AQ hb14] at Y;refine bR (k:=6) 15 [7,14] (Y.p15 0 6 10 11 99 100 101 19 18 106 107 108 109 110 111 O) λa Y=>?_;replace Y:Fr 142 [(112,undef),(113,undef),(114,undef),(115,undef),(116,undef),(117,undef),(118,undef),(119,undef),(120,undef),(0,kv),(6,pq w0.hz),(10,pq w2.hz),(11,pq w3.hz),(99,lv),(100,jv (ps.length:Int)),(101,jv (k:Int)),(19,pq w35.hz),(18,jv (k:Int)),(106,pq w35.hz),(107,jv ((ps.getD k Pxy.z).frm)),(108,kv),(109,jv (ks.length:Int)),(110,.bool true),(111,.bool true)] [{target:=.collected D,args:=#[]}] a:=Y;refine aI (k:=15) 17 [16] ?_;refine nv Y<|AO<|AK (aq O O)<|λa Y=>ab<|aO<|G35 ?_;replace Y:=Y.p9 0 6 10 11 99 100 101 18 122 O;replace U:=U.k7 254 O;refine aC Y O ?_;refine aa λG36=>wlm Y O λa Y=>aA 3 Y U [jv 6] O (sizeOf3 _) λa w40 Y U=>aA 4 Y U [jv (k:Int)] O (sizeOf3 _) λa w41 Y U=>G36<|ao ?_;have hD:=U.g 0 rfl;replace U:=U.unmark (i:=0) (o':=.deferred none) O;replace U:=U.n6 O;refine cF Y hD results103 (aB O (br (U.g 2 O) (isAgg3 _)) (aB O (br (U.g 3 O) (isAgg3 _)) ag)) ?_;exact⟨by rw[eq hwp hch hsc (by rw[hsb]; first|exact jS hkx hp0.1 om|exact jL hkx hp0.1 om hb14)]; rfl,U.ext⟩
   rw[AV hb14] at Y;refine aP (k:=6) 15 [7,14] Y ?_;replace Y:=Y.p15 0 6 10 11 99 100 101 19 18 106 107 108 109 110 111 O;refine bB 9 Y U<|pl_v (ac (v:=po w35.hz 6) O kr)<|pl_w (λU=>ld U 0 O O (isAgg9 _) O)<|pl_m O<|pl_v (ac (v:=pq w35.hz) O kr)<|pl_w (λU=>ld U 0 O O (isAgg3 _) O)<|pl_w (λU=>(ai (i:=(ps.getD k Pxy.z).frm) (sT:=44) (U.arg hkv) O O (runUnderlying44 _) (sizeOf9 _) om CH).as (v':=slAddr kv (((ps.getD k Pxy.z).frm.toNat)*1)) Eg) ?_;refine pl_w (λU=>az (u:=sv (ks.getD ((ps.getD k Pxy.z).frm.toNat) [])) (i:=((ps.getD k Pxy.z).frm.toNat)) (j:=0) (U.arg hkv) CH O (isAgg9 _) Dt)<|pl_v (ct O O) ?_;refine pl_r (λU=>bu call86 O (nz (ks.getD ((ps.getD k Pxy.z).frm.toNat) []) (ps.getD k Pxy.z).content 149 w35.hz [jv ((ps.getD k Pxy.z).frm),jv ((ps.getD k Pxy.z).to),jv ((ps.getD k Pxy.z).rf),jv ((ps.getD k Pxy.z).rt),jv ((ps.getD k Pxy.z).sf),jv ((ps.getD k Pxy.z).st),sv ((ps.getD k Pxy.z).sig)] 144 _ call149 (λb v ws h=>zk b w35.hz v (ps.getD k Pxy.z) ws (Pxy.smalls_of hpk) h) jX Eb (Br ((ps.getD k Pxy.z).content_len) de) (U.keepb hk0) (U.g 0 O) (pS U (i:=0) O hk0))) λa w42 Y U=>?_;replace Y:=Y.p11 0 6 10 11 99 100 101 18 111 113 120 O;refine ab<|aI (k:=15) 17 [16] ?_;refine nv Y<|AN (mB O O)<|AK (ak O O)<|λa Y=>ab<|aO<|G35<|bV Y O (λhc15=>?_) (λhc15=>?_)
   ·refine aa λG37=>wlm Y O λa Y=>aA 4 Y U [jv 6] O (sizeOf3 _) λa w43 Y U=>aA 5 Y U [jv (k:Int)] O (sizeOf3 _) λa w44 Y U=>G37 ?_;replace Y:=Y.p7 0 6 10 11 99 100 101 O;replace U:=U.k7 254 O;refine ao ?_;have hD:=U.g 0 rfl;replace U:=U.unmark (i:=0) (o':=.deferred none) O;replace U:=U.n6 O;refine cF Y hD results103 (aB O (br (U.g 2 O) (isAgg3 _)) (aB O (br (U.g 3 O) (isAgg3 _)) ag)) ?_;exact⟨by rw[eq hwp hch hsc (by rw[hsb]; first|exact jS hkx hp0.1 om|exact jL hkx hp0.1 om hc15)]; rfl,U.ext⟩
   refine ap<|G33<|al<|nv Y<|AK (aK O O ⟨om,om⟩)<|AL O<|λa Y=>ab ?_;refine⟨_,?_,k+1,O,om,(by rw[hsb]; exact nB hkx hp0.1 om hc15),Y.pick [0,6,10,11,99,100,101],U.select [1,2,3,4,5,6,7] de⟩;omega
  have hke:k=ps.length:=by omega
  rw[hke,List.drop_length] at hsb;refine aN<|G29<|ah λG38=>ah λG39=>aL (aM λw45 hxz=>?_);replace U:=U.grow hxz;refine aP (k:=0) 4 [1,3] Y ?_;refine bB 4 (Y.p7 0 6 10 11 99 100 101 O) U<|pl_v (ac (v:=pq w0.hz) O kr)<|pl_w (λU=>ld U 1 O O (isAgg3 _) O)<|pl_m O<|pl_w (λU=>(aH (sT:=44) (U.arg hkv) O O (runUnderlying44 _)).asi (m':=(ks.length:Int)) CU) λa w46 Y U=>?_;replace Y:=Y.p6 0 6 10 11 126 128 O;refine ab<|aI (k:=4) 6 [5] ?_;refine nv Y<|AK (v_ge O O)<|AL O<|λa Y=>ab ?_;rcases Decidable.em ((ks.length:Int)≤x.signer) with hb16|hb16
  ·rw[AQ hb16] at Y;refine bR (k:=6) 15 [7,14] (Y.p8 0 6 10 11 126 128 129 130 O) λa Y=>?_;replace Y:=Y.p17 131 132 133 134 135 136 137 138 139 0 6 10 11 126 128 129 130 O;refine aI (k:=15) 17 [16] ?_;refine nv Y<|AO<|AK (aq O O)<|λa Y=>ab<|aO<|G39 ?_;replace Y:=Y.p3 10 11 141 O;refine aC Y O ?_;refine aa λG40=>aA 3 Y U [jv 6] O (sizeOf3 _) λa w47 Y U=>aA 4 Y U [jv (-1)] O (sizeOf3 _) λa w48 Y U=>G40<|ao ?_;have hD:=U.g 0 rfl;replace U:=U.unmark (i:=0) (o':=.deferred none) O;replace U:=U.n6 O;refine cF Y hD results103 (aB O (br (U.g 2 O) (isAgg3 _)) (aB O (br (U.g 3 O) (isAgg3 _)) ag)) ?_;exact⟨by rw[eq hwp hch hsc (by rw[hsb]; first|exact io (Wsh.ok_signer hxo).1 om|exact g8 (Wsh.ok_signer hxo).1 om hb16)]; rfl,U.ext⟩
  rw[AV hb16] at Y;refine aP (k:=6) 15 [7,14] Y ?_;replace Y:=Y.p8 0 6 10 11 126 128 129 130 O;refine bB 9 Y U<|pl_v (ac (v:=po w0.hz 8) O kr)<|pl_w (λU=>ld U 1 O O (isAgg9 _) O)<|pl_m O<|pl_v (ac (v:=pq w0.hz) O kr)<|pl_w (λU=>ld U 1 O O (isAgg3 _) O)<|pl_w (λU=>(ai (i:=x.signer) (sT:=44) (U.arg hkv) O O (runUnderlying44 _) (sizeOf9 _) om CH).as (v':=slAddr kv (x.signer.toNat*1)) (by rw[show (x.signer).toNat=x.signer.toNat from by omega]))<|pl_w (λU=>az (u:=sv (ks.getD x.signer.toNat [])) (i:=x.signer.toNat) (j:=0) (U.arg hkv) CH O (isAgg9 _) Dt)<|pl_v (ct O O) ?_;refine pl_r (λU=>bu call86 O (nz (ks.getD x.signer.toNat []) x.content 150 w0.hz (EV x) 90 _ call150 (λb v ws h=>yT b w0.hz v x ws (Wsh.smalls_of hxo) h) jX Ez (Br (x.content_len) de) (U.keepb hk0) (U.g 1 O) (pS U (i:=1) O hk0))) λa w49 Y U=>?_;replace Y:=Y.p5 10 11 130 132 139 O;refine ab<|aI (k:=15) 17 [16] ?_;refine nv Y<|AN (mB O O)<|AK (ak O O)<|λa Y=>ab<|aO<|G39<|bV Y O (λhc17=>?_) (λhc17=>?_)
  ·refine aa λG41=>aA 3 Y U [jv 6] O (sizeOf3 _) λa w50 Y U=>aA 4 Y U [jv (-1)] O (sizeOf3 _) λa w51 Y U=>G41<|ao ?_;have hD:=U.g 0 rfl;replace U:=U.unmark (i:=0) (o':=.deferred none) O;replace U:=U.n6 O;refine cF Y hD results103 (aB O (br (U.g 2 O) (isAgg3 _)) (aB O (br (U.g 3 O) (isAgg3 _)) ag)) ?_;exact⟨by rw[eq hwp hch hsc (by rw[hsb]; first|exact io (Wsh.ok_signer hxo).1 om|exact g8 (Wsh.ok_signer hxo).1 om hc17)]; rfl,U.ext⟩
  refine ap<|G38<|aa λG42=>aA 3 Y U [jv 0] O (sizeOf3 _) λa w52 Y U=>aA 4 Y U [jv (-1)] O (sizeOf3 _) λa w53 Y U=>G42<|ao ?_;have hD:=U.g 0 rfl;replace U:=U.unmark (i:=0) (o':=.deferred none) O;replace U:=U.n6 O;refine cF Y hD results103 (aB O (br (U.g 2 O) (isAgg3 _)) (aB O (br (U.g 3 O) (isAgg3 _)) ag)) ?_;exact⟨by rw[ju hwp hch hsc (by rw[hsb]; exact oV (Wsh.ok_signer hxo).1 om hc17)]; rfl,U.ext⟩
 ·rintro D _ pre _ _ a w54 rfl ⟨rfl,i,hci,rfl⟩ U Y;replace Y:=Y.p9 0 6 7 10 11 63 64 65 66 O;replace U:=U.n7 O;refine ao ?_;have hD:=U.g 0 rfl;replace U:=U.unmark (i:=0) (o':=.deferred none) O;replace U:=U.n6 O;refine cF Y hD results103 (aB O (br (U.g 2 O) (isAgg3 _)) (aB O (br (U.g 3 O) (isAgg3 _)) ag)) ?_;exact⟨by rw[ij hwp hci]; rfl,U.ext⟩
end Go.Proofs.YtliklcmddmpdfaaGreatDoor
namespace Go.Proofs.YtliklcmddmpdfaaGreatDoor
open Go.RowKit Go.PW _root_.Go.Proofs.Tryz
theorem wY (kv lv:Value) (ks:List By) (x:Wsh) (ps:List Pxy) (number t:Int) (w0:World) (hkv:SlAt w0 kv 1 (ks.map λs=>[sv s])) (hlv:SlAt w0 lv 7 (ps.map Pxy.cells)) (hk0:(blk 0 (kOf.map wv) 258).ok w0):
  Ff 40 #[kv,(EW x),lv,jv number,jv t] w0 (.bool (validH ks x ps number t)):=by
 refine CA func40 O ntmps40 (lb O) λa Y U=>aa λG1=>aR Y U O (EV x) O λa w1 Y U=>wla Y O λa Y=>G1<|aa λG2=>nv Y<|AL O<|AK (ar (U.g 0 O) O (isAgg90 _) (sizeOf90 _))<|AL O<|AL O<|AL O<|λa Y=>au Y U call103 O (Ai kv lv ks x ps number t _ (U.arg hkv) (U.arg hlv) (U.keepb hk0)) λa w2 Y U=>nv Y<|AL O<|AK (aj O O)<|AK (aj O O)<|AM O<|AM O<|λa Y=>G2 ?_;replace U:=U.k0 0 O;refine aa λG3=>nv (Y.p2 10 11 O)<|AL O<|AK (v_eq O O)<|AM O<|λa Y=>G3<|ao<|am Y results40 (ae O ag) ?_;exact⟨by rfl,U.ext⟩
theorem qf {x:Wsh} {lv:Value} {ps:List Pxy} {w0:World} (hlv:SlAt w0 lv 7 (ps.map Pxy.cells)):Ff 90 #[(EW x),lv] w0 (.bool (cf x ps)):=by
 have:=ut x lv ps w0 hlv;rwa [sJ] at this
theorem ku:∀{l:List Pxy},(∀p∈l,p.sig.length=32)→(l.flatMap Pxy.text).length≤1000*l.length
 | [],h=>by simp
 | p::l,h=>by
  have h1:=h p sm;have h2:=ku (l:=l) (λq hq=>h q DG);have h3:p.content.length≤9*7:=ej _;rw[Bv,AW,Pxy.text,AW,A3];omega
theorem iH {x:Wsh} {ps:List Pxy} (h:cf x ps=true):ps.length≤4:=by
 simp only[cf,AU,AZ] at h; exact h.1.2
theorem iQ {x:Wsh} {ps:List Pxy} (h:cf x ps=true):x.ok=true:=by
 simp only[cf,AU,AZ] at h; exact h.1.1
theorem mc {x:Wsh} {ps:List Pxy} (h:cf x ps=true):∀p∈ps,p.ok=true:=by
 simp only[cf,AU,AZ,Option.isNone_iff_eq_none] at h; exact dr h.2
theorem zR {ps:List Pxy} (h:(ps.any λp=>!decide ((p.sig.length:Int)=32))=false):∀p∈ps,p.sig.length=32:=by
 intro p hp;have:=BV.1 h p hp;simp only[BE,Cs,Bn,Classical.not_not] at this;omega
theorem va {ps:List Pxy} (h:(ps.any λp=>!decide ((p.sig.length:Int)=32))=true):¬∀p∈ps,p.sig.length=32:=by
 intro hh;obtain⟨p,hp,h⟩:=BM.1 h;simp[hh p hp] at h
theorem gG {x:Wsh} {ps:List Pxy} (h:cf x ps=false∨¬(x.sig.length:Int)=32∨(ps.any λp=>!decide ((p.sig.length:Int)=32))=true):cz x ps=none:=by
 cases he:cz x ps with
 | none=>rfl
 | some s=>
  obtain⟨h1,h2,h3,_⟩:=cW.1 he;rcases h with h|h|h
  ·rw[h1] at h; cases h
  ·omega
  ·exact absurd h3 (va h)
def encX (ps:List Pxy) (k:Nat):By:=puts [(ps.length:Int)]++(ps.take k).flatMap Pxy.text
theorem oT {ps:List Pxy} {k:Nat} (h:k<ps.length):encX ps (k+1)=encX ps k++(ps.getD k Pxy.z).content++(ps.getD k Pxy.z).sig:=by
 unfold encX;rw[cI Pxy.z h,List.flatMap_append];simp[Pxy.text,Bu]
theorem jF {ps:List Pxy} {k:Nat} (h4:ps.length≤4) (h:∀p∈ps,p.sig.length=32):(encX ps k).length≤10000:=by
 unfold encX;have h1:=ej [(ps.length:Int)];have h2:=ku (l:=ps.take k) (λp hp=>h p (BB hp));rw[AW];rw[AX] at h2;simp only[A3,A5] at h1;omega
theorem wT {x:Wsh} {ps:List Pxy}:encX ps ps.length++x.content++x.sig=putI (ps.length:Int)++(ps.flatMap Pxy.text++x.text):=by
 unfold encX Wsh.text; simp[puts,Bu]
theorem t6 {x:Wsh} {ps:List Pxy} (h1:cf x ps=true) (h2:x.sig.length=32) (h3:∀p∈ps,p.sig.length=32):cz x ps=some (encX ps ps.length++x.content++x.sig):=
 cW.2 ⟨h1,h2,h3,wT⟩
theorem yY {ps:List Pxy} {k:Nat} {a b:By}:encX ps k++a++b≠[]:=by
 intro h;unfold encX at h;simp only[List.append_eq_nil_iff] at h;exact jX h.1.1.1
theorem fl (x:Pxy):x.content.length≤63:=ej _
theorem fj (x:Wsh):x.content.length≤81:=ej _
theorem vm (x:Wsh) (lv:Value) (ps:List Pxy) (w0:World) (hlv:SlAt w0 lv 7 (ps.map Pxy.cells)):
  Ff 35 #[(EW x),lv] w0 (match cz x ps with|some s=>.tuple #[sv s,jv 0]|none=>.tuple #[sv [],jv 150]):=by
 have hxb:=hlv.2.1;simp only[AP,big] at hxb;refine Cx func35 O ntmps35 (lb O) λa Y U=>aa λG1=>aR Y U O (EV x) O λa w1 Y U=>nv Y<|AM O<|AM O<|λa Y=>G1<|aa λG2=>wla Y O λa Y=>G2<|ah λG3=>aa λG4=>nv Y<|AK (ar (U.g 0 O) O (isAgg90 _) (sizeOf90 _))<|AL O<|λa Y=>au Y U call90 O (qf (U.arg hlv)) λa w2 Y U=>nv Y<|AK (bd O)<|AL O<|λa Y=>?_;rcases AR (!(cf x ps)) with hb1|hb1
 ·rw[hb1] at Y
  try simp only[qz] at hb1
  refine nv Y<|AO<|AO<|AO<|AO<|AK (aq O O)<|AL O<|AO<|AO<|AO<|AK (aq O O)<|λa Y=>G4 ?_;replace Y:=Y.p5 1 2 4 5 24 O;refine aC Y O ?_;refine aa λG5=>nv Y<|AM O<|AM O<|λa Y=>G5<|ao<|am Y results35 (ae O (ae O ag)) ?_;exact⟨by simp only[retv]; rw[gG (.inl hb1)]; rfl,U.ext⟩
 rw[hb1] at Y
 try simp only[qz] at hb1
 refine nv Y<|AN (ac (v:=po w0.hz 8) O kr)<|AN (ld U 0 O O (isAgg9 _) O)<|AN (aZ O O (runUnderlying9 _))<|AN (v_ne O O)<|AK (ak O O)<|AL O<|λa Y=>?_;rcases (Decidable.em ((x.sig.length:Int)=32)).symm with hb2|hb2
 ·rw[AV hb2] at Y;refine nv Y<|AO<|AO<|AO<|AK (aq O O)<|λa Y=>G4 ?_;replace Y:=Y.p5 1 2 4 5 24 O;refine aC Y O ?_;refine aa λG6=>nv Y<|AM O<|AM O<|λa Y=>G6<|ao<|am Y results35 (ae O (ae O ag)) ?_;exact⟨by simp only[retv]; rw[gG (.inr (.inl hb2))]; rfl,U.ext⟩
 rw[AQ hb2] at Y;refine nv Y<|AN (ax O)<|AN (ax O)<|λa Y=>aF Y U call91 O (yV (λp=>!decide ((p.sig.length:Int)=32)) _ call89 (U.arg hlv) (λx w _=>zS x w)) λa w3 Y U=>wlv Y (ak O O) λa Y=>G4 ?_;replace Y:=Y.p5 1 2 4 5 24 O;refine bn Y O (λhc3=>?_) (λhc3=>?_)
 ·try simp only[qz] at hc3
  refine aa λG7=>nv Y<|AM O<|AM O<|λa Y=>G7<|ao<|am Y results35 (ae O (ae O ag)) ?_;exact⟨by simp only[retv]; rw[gG (.inr (.inr hc3))]; rfl,U.ext⟩
 try simp only[qz] at hc3
 refine ap<|G3 ?_;have hfo:=hb1;have hsx:x.sig.length=32:=by omega
 have hop:=zR hc3;have h4:=iH hfo;have hxo:=iQ hfo;refine aa λG8=>aE Y U (zeroValue162 _) [.pointer none,.slice none 0 0] O λa w4 Y U=>G8 ?_;replace U:St No w0 (own (.slice none 0 0) 5 1 []::[blk w3.hz [.pointer none,.slice none 0 0] 162,blk w0.hz (EV x) 90]) w4:=U.nil_own;replace U:=U.s3 [1,0,2] de rfl;replace U:St No w0 [bld 162 w3.hz (.pointer none) (.slice none 0 0) ([]:By),blk w0.hz (EV x) 90] w4:=St.join [blk w3.hz [.pointer none,.slice none 0 0] 162,own (.slice none 0 0) 5 1 ([])] [blk w0.hz (EV x) 90] U;refine aa λG9=>nv Y<|AL O<|AK ((aH (sT:=91) (U.arg hlv) O O (runUnderlying91 _)).asi (m':=(ps.length:Int)) CU)<|λa Y=>aG (E:=3) (sz:=1) O [[jv (ps.length:Int)]] kr sm O de de Y U λa w5 Y U=>?_;replace U:=U.s3 [1,0,2] de rfl;replace U:=St.join [bld 162 w3.hz (.pointer none) (.slice none 0 0) ([]:By),own (.slice (some ⟨w4.hz,0,none⟩) 1 1) 3 1 ([[jv (ps.length:Int)]])] [blk w0.hz (EV x) 90] U;refine bZ (R:=λu e'=>u=.tuple #[]∧∃v2,e'=bld 162 w3.hz (pq w3.hz) v2 (puts [(ps.length:Int)])) 0 Y U O de call92 O (λh=>(iK 162 w3.hz _ _ _ [] [(ps.length:Int)] _ kr (.inl O) (λz hz=>by rw[Bl.1 hz]; unfold small; omega) sm sm (St.unjoin [bld 162 w3.hz (.pointer none) (.slice none 0 0) ([]:By),own (.slice (some ⟨w4.hz,0,none⟩) 1 1) 3 1 ([[jv (ps.length:Int)]])] [] h)).mono λu w ⟨h1,v2,h2⟩=>⟨_,⟨h1,v2,O⟩,h2⟩) ?_;clear Y U;rintro a w6 _ _ ⟨rfl,v4,rfl⟩ Y U;replace U:St No w0 [bld 162 w3.hz (pq w3.hz) v4 (encX ps 0),blk w0.hz (EV x) 90] w6:=by rw[show encX ps 0=puts [(ps.length:Int)] from by unfold encX; simp]; exact U
 refine G9<|ah λG10=>aa λG11=>nv Y<|AL O<|AK ((aH (sT:=91) (U.arg hlv) O O (runUnderlying91 _)).asi (m':=(ps.length:Int)) CU)<|AL O<|λa Y=>G11 ?_;replace Y:=Y.p7 2 4 5 7 29 30 31 O;refine aw<|aV (λm a w=>∃(k:Nat) (v:Value),m=ps.length- k∧(k≤ps.length)∧Fr 50 [(2,pq w0.hz),(4,sv ([])),(5,jv 0),(7,pq w3.hz),(29,lv),(30,jv (ps.length:Int)),(31,jv (k:Int))] [] a∧St No w0 [bld 162 w3.hz (pq w3.hz) v (encX ps k),blk w0.hz (EV x) 90] w) _ ⟨0,v4,O,A8 _,Y.pick [2,4,5,7,29,30,31],U.select [0,1] de⟩ ?_;rintro _ a w7 ⟨k,v,rfl,hk,Y,U⟩;refine aa λG12=>wlv Y (v_lt O O) λa Y=>G12<|ah λG13=>ay Y O (λhc5=>?_) (λhc5=>?_)
 ·have hkx:k<ps.length:=by omega
  have hpk:=mc hfo _ (bf (d:=Pxy.z) hkx);have hsk:=hop _ (bf (d:=Pxy.z) hkx);refine ap<|G13<|ah λG14=>aw<|aa λG15=>nv Y<|AK ((ai (i:=(k:Int)) (sT:=91) (U.arg hlv) O O (runUnderlying91 _) (sizeOf144 _) om CH).as (v':=slAddr lv (k*7)) O)<|AK ((bI (U.arg hlv) (i:=k) CH O (isAgg144 _) (sizeOf144 _)).as (v':=.agg #[jv ((ps.getD k Pxy.z).frm),jv ((ps.getD k Pxy.z).to),jv ((ps.getD k Pxy.z).rf),jv ((ps.getD k Pxy.z).rt),jv ((ps.getD k Pxy.z).sf),jv ((ps.getD k Pxy.z).st),sv ((ps.getD k Pxy.z).sig)]) C4)<|λa Y=>aE Y U (zeroValue144 _) E6 O λa w8 Y U=>aA 0 Y U [jv ((ps.getD k Pxy.z).frm),jv ((ps.getD k Pxy.z).to),jv ((ps.getD k Pxy.z).rf),jv ((ps.getD k Pxy.z).rt),jv ((ps.getD k Pxy.z).sf),jv ((ps.getD k Pxy.z).st),sv ((ps.getD k Pxy.z).sig)] O (sizeOf144 _) λa w9 Y U=>G15<|aa λG16=>wlv Y (ar (U.g 0 O) O (isAgg144 _) (sizeOf144 _)) λa Y=>bZ (R:=λu e'=>u=.tuple #[]∧∃v2,e'=bld 162 w3.hz (pq w3.hz) v2 ((encX ps k)++(ps.getD k Pxy.z).content)) 1 Y U O de call93 O (λh=>(kg 162 w3.hz _ _ _ (ps.getD k Pxy.z) _ kr (.inr O) (Pxy.smalls_of hpk) (by have:=jF (k:=k) h4 hop; omega) h).mono λu w ⟨h1,v2,h2⟩=>⟨_,⟨h1,v2,O⟩,h2⟩) ?_;clear Y U;rintro a w10 _ _ ⟨rfl,v6,rfl⟩ Y U
  try dsimp only at U
  replace U:=U.n3 O;refine G16<|al<|nv Y<|AK (ac (v:=pq w3.hz) O kr)<|AK (ac (v:=po w7.hz 6) O kr)<|AK (ld U 0 O O (isAgg9 _) O)<|λa Y=>bZ (R:=λu e'=>u=.tuple #[jv (((ps.getD k Pxy.z).sig).length:Int),.nilIface]∧∃v2,e'=bld 162 w3.hz (pq w3.hz) v2 (((encX ps k)++(ps.getD k Pxy.z).content)++((ps.getD k Pxy.z).sig))) 1 Y U O de call94 O (λh=>(gO 162 w3.hz _ _ _ ((ps.getD k Pxy.z).sig) _ kr (.inr O) (by intro h; have h9:=Bh List.length h; rw[A5] at h9; omega) (by have h7:=jF (k:=k) h4 hop; have h8:=fl (ps.getD k Pxy.z); rw[AW]; omega) h).mono λu w ⟨h1,v2,h2⟩=>⟨_,⟨h1,v2,O⟩,h2⟩) ?_;clear Y U;rintro a w11 _ _ ⟨rfl,v7,rfl⟩ Y U
  try dsimp only at U
  replace U:=U.n3 O;refine ab<|G14 ?_;replace U:=U.k2 6 O;refine al<|nv (Y.p7 2 4 5 7 29 30 31 O)<|AK (aK O O ⟨om,om⟩)<|AL O<|λa Y=>ab ?_;replace U:St No w0 [bld 162 w3.hz (pq w3.hz) v7 (encX ps (k+1)),blk w0.hz (EV x) 90] w11:=by rw[oT hkx]; exact U
  refine⟨_,?_,k+1,v7,O,om,Y.pick [2,4,5,7,29,30,31],U.select [0,1] de⟩;omega
 have hke:k=ps.length:=by omega
 subst hke;refine aN<|G10<|aa λG17=>wlv Y (ar (U.g 1 O) O (isAgg90 _) (sizeOf90 _)) λa Y=>bZ (R:=λu e'=>u=.tuple #[]∧∃v2,e'=bld 162 w3.hz (pq w3.hz) v2 ((encX ps ps.length)++x.content)) 0 Y U O de call88 O (λh=>(lH 162 w3.hz _ _ _ x _ kr (.inr O) (Wsh.smalls_of hxo) (by have:=jF (k:=ps.length) h4 hop; omega) h).mono λu w ⟨h1,v2,h2⟩=>⟨_,⟨h1,v2,O⟩,h2⟩) ?_;clear Y U;rintro a w12 _ _ ⟨rfl,v8,rfl⟩ Y U
 try dsimp only at U
 replace U:=U.n2 O;refine G17<|aa λG18=>nv (Y.p4 2 4 5 7 O)<|AK (ac (v:=pq w3.hz) O kr)<|AK (ac (v:=po w0.hz 8) O kr)<|AK (ld U 1 O O (isAgg9 _) O)<|λa Y=>bZ (R:=λu e'=>u=.tuple #[jv (x.sig.length:Int),.nilIface]∧∃v2,e'=bld 162 w3.hz (pq w3.hz) v2 (((encX ps ps.length)++x.content)++x.sig)) 0 Y U O de call94 O (λh=>(gO 162 w3.hz _ _ _ x.sig _ kr (.inr O) (by intro h; have h9:=Bh List.length h; rw[A5] at h9; omega) (by have h7:=jF (k:=ps.length) h4 hop; have h8:=fj x; rw[AW]; omega) h).mono λu w ⟨h1,v2,h2⟩=>⟨_,⟨h1,v2,O⟩,h2⟩) ?_;clear Y U;rintro a w13 _ _ ⟨rfl,v9,rfl⟩ Y U
 try dsimp only at U
 replace U:=U.n2 O;refine G18<|aa λG19=>wlv Y (ac (v:=pq w3.hz) O kr) λa Y=>bZ (R:=λu e'=>u=sv (((encX ps ps.length)++x.content)++x.sig)∧e'=blk w3.hz [pq w3.hz,v9] 162) 0 Y U O de call95 O (λh=>(i0 162 w3.hz _ _ _ yY h).mono λu w ⟨h1,h2⟩=>⟨_,⟨h1,O⟩,h2⟩) ?_;clear Y U;rintro a w14 _ _ ⟨rfl,rfl⟩ Y U
 try dsimp only at U
 replace U:=U.n2 O;refine nv Y<|AM O<|AM O<|λa Y=>G19 ?_;replace Y:=Y.p2 4 5 O;refine ao<|am Y results35 (ae O (ae O ag)) ?_;exact⟨by simp only[retv]; rw[t6 hfo hsx hop]; try rfl,U.ext⟩
theorem p128 (i:Nat):(128:Nat) ^ i=2 ^ (7*i):=by rw[Nat.pow_mul]
theorem v_ixz {P:Program} {w:World} {L:List (Nat × Value)} {dst:Option Tmp} {T T' ty:TypeId} {pos:String} {af:Array Edge} {gd:Option (Nat × Bool)} {x y:Operand} {z:Nat} (hz:z<9223372036854775808)
  (hx:ev L x=some (jv ((z / 2:Nat):Int))) (hy:ev L y=some (jv (-((z%2:Nat):Int)))):OpV P ⟨dst,.binOp .xor T x y T',ty,pos,af,gd⟩ L w (jv (uz z)):=by
 have h:=AA (P:=P) (w:=w) (dst:=dst) (T:=T) (T':=T') (ty:=ty) (pos:=pos) (af:=af) (gd:=gd) (n:=((z / 2:Nat):Int)) (decide (z%2=1)) om om hx (hy.trans (by
  congr 2
  by_cases h:z%2=1
  ·rw[AQ h,h]; rfl
  ·rw[AV h,show z%2=0 from by omega]; rfl))
 refine h.as ?_;congr 1;unfold uz
 by_cases h:z%2=1
 ·rw[AQ h,Bi rfl,Bc om]
 ·rw[AV h,Bc de,Bi om]
theorem AG {f i z:Nat}:wI f i z []=none:=by cases f<;>rfl
theorem lu {s:By} {p:Nat} (h:p<s.length):s.drop p=s.getD p 0::s.drop (p+1):=by
 rw[BK h,AY,A2 h]; rfl
theorem zO {s:By} {p i z:Nat} (hi:i<9) (hp:p+i<s.length) (hb:128≤(s.getD (p+i) 0).toNat):
  wI (9- i) i z (s.drop (p+i))=wI (9- (i+1)) (i+1) (z+(s.getD (p+i) 0).toNat%128*2 ^ (7*i)) (s.drop (p+(i+1))):=by
 rw[lu hp,show 9- i=(9- (i+1))+1 from by omega,wI,Bc om,p128]; rfl
theorem rX {s:By} {p i z:Nat} (hi:i<9) (hp:p+i<s.length) (hb:(s.getD (p+i) 0).toNat<128) (h:((s.getD (p+i) 0).toNat=0∧0<i)∨uz (z+(s.getD (p+i) 0).toNat%128*2 ^ (7*i))< -4611686018427387903):
  wI (9- i) i z (s.drop (p+i))=none:=by
 rw[lu hp,show 9- i=(9- (i+1))+1 from by omega,wI,Bi hb,p128,Bi];exact h.imp_left λ⟨h1,h2⟩=>⟨UInt8.toNat_inj.1 (by rw[h1]; rfl),h2⟩
theorem tY {s:By} {p i z:Nat} (hi:i<9) (hp:p+i<s.length) (hb:(s.getD (p+i) 0).toNat<128) (h:¬((s.getD (p+i) 0).toNat=0∧0<i)) (h2:¬uz (z+(s.getD (p+i) 0).toNat%128*2 ^ (7*i))< -4611686018427387903):
  wI (9- i) i z (s.drop (p+i))=some (uz (z+(s.getD (p+i) 0).toNat%128*2 ^ (7*i)),i+1):=by
 rw[lu hp,show 9- i=(9- (i+1))+1 from by omega,wI,Bi hb,p128,Bc];rintro (⟨h3,h4⟩|h3)
 ·exact h ⟨by rw[h3]; rfl,h4⟩
 ·exact h2 h3
theorem xQ {z i b:Nat} (hz:z<2 ^ (7*i)) (hb:b<128):z+b*2 ^ (7*i)<2 ^ (7*(i+1)):=by
 have e:2 ^ (7*(i+1))=128*2 ^ (7*i):=by rw[Nat.mul_add,Nat.pow_add,Nat.mul_comm]
 rw[e];have:(b+1)*2 ^ (7*i)≤128*2 ^ (7*i):=Nat.mul_le_mul_right _ om;rw[Nat.add_mul] at this;omega
theorem z_63 {z i:Nat} (hi:i<9) (hz:z<2 ^ (7*(i+1))):z<9223372036854775808:=by
 have:(2:Nat) ^ (7*(i+1))≤2 ^ 63:=Nat.pow_le_pow_right de om;omega
def intV (s:By) (p:Nat):Value:=match rdI (s.drop p) with
 | some (n,r)=>.tuple #[jv n,jv ((s.length- r.length:Nat):Int),jv 0]
 | none=>.tuple #[jv 0,jv 0,jv 10]
theorem gS {s:By} {p:Nat} (h:wI 9 0 0 (s.drop p)=none):intV s p=.tuple #[jv 0,jv 0,jv 10]:=by
 rw[yc] at h;unfold intV;cases hr:rdI (s.drop p) with
 | none=>rfl
 | some x=>rw[hr] at h; cases h
theorem qy {s:By} {p k:Nat} {n:Int} (hp:p≤s.length) (h:wI 9 0 0 (s.drop p)=some (n,k)):intV s p=.tuple #[jv n,jv ((p+k:Nat):Int),jv 0]:=by
 rw[yc] at h;unfold intV;cases hr:rdI (s.drop p) with
 | none=>rw[hr] at h; cases h
 | some x=>
  obtain⟨n2,r⟩:=x;rw[hr] at h;simp only[Option.map_some,Option.some.injEq,Prod.mk.injEq] at h;obtain⟨rfl,rfl⟩:=h;obtain⟨_,h2⟩:=eQ hr;have h3:=Bh List.length h2;rw[Bb,AW] at h3;have h4:=(bQ n2).1;simp only;rw[Bb,show p+(s.length- p- r.length)=s.length- r.length from by omega]
theorem jN (s:By) (p:Nat) (w0:World) (hp:p≤s.length) (hsl:s.length≤1000000):
  Ff 63 #[sv s,jv (p:Int)] w0 (intV s p):=by
 refine Cx func63 O ntmps63 (lb O) λa Y U=>aa λG1=>nv Y<|AM O<|AM O<|AM O<|λa Y=>G1<|ah λG2=>aa λG3=>nv Y<|AL O<|AK ((v_lt O O).asb (b':=false) DA)<|AL O<|AN (ax O)<|AN (ax O)<|AN (aZ O O (runUnderlying9 _))<|AN ((v_gt O O).asb (b':=false) DA)<|AK (ak O O)<|λa Y=>G3 ?_;replace Y:=Y.p6 0 1 4 5 6 18 O;refine aJ Y O ?_;refine ap<|G2<|aa λG4=>wla Y O λa Y=>G4<|ah λG5=>aa λG6=>wlm Y O λa Y=>G6<|aw<|aV (λm a w=>∃(i:Nat) (z:Nat),m=9- i∧(i≤9)∧(wI 9 0 0 (s.drop p)=wI (9- i) i z (s.drop (p+i)))∧(z<2 ^ (7*i))∧Fr 67 [(0,sv s),(1,jv (p:Int)),(7,.int .u64 (z:Int)),(19,jv (i:Int))] [] a∧St No w0 [] w) _ ⟨0,0,O,de,O,de,Y.pick [0,1,7,19],U.select [] de⟩ ?_;rintro _ a w1 ⟨i,z,rfl,hi,hw,hz,Y,U⟩;refine aa λG7=>wlv Y (v_lt O O) λa Y=>G7<|ah λG8=>ay Y O (λhc1=>?_) (λhc1=>?_)
 ·refine ap<|G8<|ah λG9=>aw<|aa λG10=>nv Y<|AL O<|AM O<|λa Y=>G10<|ah λG11=>aa λG12=>nv Y<|AL O<|AL O<|AK (aK O O ⟨om,om⟩)<|AL O<|AK (aZ O O (runUnderlying9 _))<|AK (v_ge O O)<|λa Y=>G12 ?_;replace Y:=Y.p6 0 1 7 19 8 27 O;refine ay Y O (λhc2=>?_) (λhc2=>?_)
  ·have hwn:wI 9 0 0 (s.drop p)=none:=by rw[hw,List.drop_eq_nil_of_le om]; exact AG
   refine aN<|G5<|aa λG13=>nv Y<|AM O<|AM O<|AM O<|λa Y=>G13 ?_;replace Y:=Y.p3 4 5 6 O;refine ao<|am Y results63 (ae O (ae O (ae O ag))) ?_;exact⟨(gS hwn).symm,U.ext⟩
  have hpi:p+i<s.length:=by omega
  have hm8:(s.getD (p+i) 0).toNat%128<128:=Nat.mod_lt _ de;have hzl:=xQ hz hm8;have hz6:=z_63 (i:=i) om hzl;refine ap<|G11<|aa λG14=>nv Y<|AL O<|AL O<|AL O<|AK (aK O O ⟨om,om⟩)<|AK (gN (k:=(p+i)) O O (runUnderlying9 _) om om)<|AM O<|λa Y=>G14 ?_;refine aa λG15=>nv (Y.p6 0 1 7 19 8 9 O)<|AL O<|AL O<|AK (Au (a:=s.getD (p+i) 0) (b:=(127:UInt8)) O O)<|AK ((ol O kr underlying190).asi (m':=(((s.getD (p+i) 0).toNat%128:Nat):Int)) (by rw[y127]))<|AL O<|AK ((ey O O ⟨om,om⟩).asi (m':=((7*i:Nat):Int)) om)<|AK ((sX (m:=(s.getD (p+i) 0).toNat%128) (n:=7*i) om O O).asi (m':=(((s.getD (p+i) 0).toNat%128*2 ^ (7*i):Nat):Int)) (by rw[Nat.mod_eq_of_lt om]))<|AK (v_uor (m:=z) (n:=(s.getD (p+i) 0).toNat%128) (k:=7*i) hz om O O)<|AM O<|λa Y=>G15 ?_;replace Y:=Y.p6 0 1 19 8 9 7 O;refine ah λG16=>aa λG17=>nv Y<|AL O<|AK (v_ge O O)<|λa Y=>G17<|ay Y O (λhc3=>?_) (λhc3=>?_)
  ·refine aN<|G9<|al<|nv Y<|AK (aK O O ⟨om,om⟩)<|AL O<|λa Y=>ab ?_;refine⟨_,?_,i+1,(z+(s.getD (p+i) 0).toNat%128*2 ^ (7*i)),O,om,(by rw[hw]; exact zO om hpi om),hzl,Y.pick [0,1,7,19],U.select [] de⟩;omega
  refine ap<|G16<|aa λG18=>nv Y<|AL O<|AK ((rU (m:=(z+(s.getD (p+i) 0).toNat%128*2 ^ (7*i))) (n:=1) de O O).asi (m':=(((z+(s.getD (p+i) 0).toNat%128*2 ^ (7*i)) / 2:Nat):Int)) O)<|AK (iy (n:=(z+(s.getD (p+i) 0).toNat%128*2 ^ (7*i)) / 2) om O kr underlying3)<|AL O<|AK ((wx (m:=(z+(s.getD (p+i) 0).toNat%128*2 ^ (7*i))) (k:=1) om de O O).asi (m':=(((z+(s.getD (p+i) 0).toNat%128*2 ^ (7*i))%2:Nat):Int)) O)<|AK (iy (n:=(z+(s.getD (p+i) 0).toNat%128*2 ^ (7*i))%2) om O kr underlying3)<|AK (kD O om om)<|AK (v_ixz (z:=(z+(s.getD (p+i) 0).toNat%128*2 ^ (7*i))) om O O)<|AM O<|λa Y=>G18 ?_;refine ah λG19=>aa λG20=>nv (Y.p7 0 1 19 8 9 7 10 O)<|AL O<|AK (v_eq O O)<|AL O<|λa Y=>?_;rcases Decidable.em (((s.getD (p+i) 0).toNat:Int)=0) with hb4|hb4
  ·rw[AQ hb4] at Y;refine nv Y<|AN (ax O)<|AN (v_gt O O)<|AK (aq O O)<|AL O<|λa Y=>?_;rcases Decidable.em (0<(i:Int)) with hb5|hb5
   ·rw[AQ hb5] at Y;have hwn:wI 9 0 0 (s.drop p)=none:=by rw[hw]; exact rX om hpi om (.inl ⟨om,om⟩)
    refine nv Y<|AO<|AO<|AK (aq O O)<|λa Y=>G20 ?_;replace Y:=Y.p7 0 1 19 8 7 10 60 O;refine aC Y O ?_;refine aN<|G5<|aa λG21=>nv Y<|AM O<|AM O<|AM O<|λa Y=>G21 ?_;replace Y:=Y.p3 4 5 6 O;refine ao<|am Y results63 (ae O (ae O (ae O ag))) ?_;exact⟨(gS hwn).symm,U.ext⟩
   rw[AV hb5] at Y;have hng:¬((s.getD (p+i) 0).toNat=0∧0<i):=by omega
   refine nv Y<|AN (ax O)<|AN (v_lt O O)<|AK (ak O O)<|λa Y=>G20 ?_;replace Y:=Y.p7 0 1 19 8 7 10 60 O;refine ay Y O (λhc6=>?_) (λhc6=>?_)
   ·have hwn:wI 9 0 0 (s.drop p)=none:=by rw[hw]; exact rX om hpi om (.inr hc6)
    refine aN<|G5<|aa λG22=>nv Y<|AM O<|AM O<|AM O<|λa Y=>G22 ?_;replace Y:=Y.p3 4 5 6 O;refine ao<|am Y results63 (ae O (ae O (ae O ag))) ?_;exact⟨(gS hwn).symm,U.ext⟩
   have hwg:=hw.trans (tY om hpi om om hc6);refine ap<|G19<|aa λG23=>nv Y<|AL O<|AL O<|AL O<|AK (aK O O ⟨om,om⟩)<|AK (aK O O ⟨om,om⟩)<|AM O<|AM O<|AM O<|λa Y=>G23 ?_;replace Y:=Y.p7 0 1 19 7 4 5 6 O;refine ao<|am Y results63 (ae O (ae O (ae O ag))) ?_;exact⟨((qy hp hwg).trans (by simp only[retv]; congr 3; all_goals omega)).symm,U.ext⟩
  rw[AV hb4] at Y;refine nv Y<|AO<|AO<|AK (ak O O)<|AL O<|AN (ax O)<|AN (v_lt O O)<|AK (ak O O)<|λa Y=>G20 ?_;replace Y:=Y.p7 0 1 19 8 7 10 60 O;refine ay Y O (λhc7=>?_) (λhc7=>?_)
  ·have hwn:wI 9 0 0 (s.drop p)=none:=by rw[hw]; exact rX om hpi om (.inr hc7)
   refine aN<|G5<|aa λG24=>nv Y<|AM O<|AM O<|AM O<|λa Y=>G24 ?_;replace Y:=Y.p3 4 5 6 O;refine ao<|am Y results63 (ae O (ae O (ae O ag))) ?_;exact⟨(gS hwn).symm,U.ext⟩
  have hwg:=hw.trans (tY om hpi om om hc7);refine ap<|G19<|aa λG25=>nv Y<|AL O<|AL O<|AL O<|AK (aK O O ⟨om,om⟩)<|AK (aK O O ⟨om,om⟩)<|AM O<|AM O<|AM O<|λa Y=>G25 ?_;replace Y:=Y.p7 0 1 19 7 4 5 6 O;refine ao<|am Y results63 (ae O (ae O (ae O ag))) ?_;exact⟨((qy hp hwg).trans (by simp only[retv]; congr 3; all_goals omega)).symm,U.ext⟩
 have hwn:wI 9 0 0 (s.drop p)=none:=by rw[hw,show 9- i=0 from by omega]; rfl
 refine aN<|G5<|aa λG26=>nv Y<|AM O<|AM O<|AM O<|λa Y=>G26<|ao<|am Y results63 (ae O (ae O (ae O ag))) ?_;exact⟨(gS hwn).symm,U.ext⟩
def kdI (x:Int) (r:By):Option By:=match rdI r with
 | some (n,q)=>if n=x then some q else none
 | none=>none
def dgI (r:By):Option (By × By):=if 32≤r.length then some (r.take 32,r.drop 32) else none
section
variable {α:Type} {r q g:By} {x n:Int}
theorem mN (h:kdI x r=some q):rdI r=some (x,q):=by
 unfold kdI at h;split at h
 ·rename_i n q2 hq;split at h
  ·rename_i e; cases h; rw[hq,e]
  ·cases h
 ·cases h
theorem qg (h:kdI x r=none):rdI r=none∨∃n q,rdI r=some (n,q)∧¬n=x:=by
 unfold kdI at h;split at h
 ·rename_i n q2 hq;split at h
  ·cases h
  ·rename_i e; exact .inr ⟨n,q2,hq,e⟩
 ·rename_i hq; exact .inl hq
theorem qP {k:By→Option α} (h:kdI x r=some q):kindI x r k=k q:=by
 unfold kindI; rw[cZ (mN h),Bi rfl]
theorem nU {k:By→Option α} (h:kdI x r=none):kindI x r k=none:=by
 unfold kindI;rcases qg h with h|⟨n,q,h,e⟩
 ·exact cR h
 ·rw[cZ h,Bc e]
theorem nZ {k:By→By→Option α} (h:dgI r=some (g,q)):getD32 r k=k g q:=by
 unfold dgI at h; unfold getD32;split at h
 ·rename_i hl; cases h; rw[Bi hl]
 ·cases h
theorem me {k:By→By→Option α} (h:dgI r=none):getD32 r k=none:=by
 unfold dgI at h; unfold getD32;split at h
 ·cases h
 ·rename_i hl; rw[Bc hl]
theorem du (h:rdI r=some (n,q)):q<:+r:=by
 obtain⟨_,rfl⟩:=eQ h; exact List.suffix_append _ _
theorem tI (h:kdI x r=some q):q<:+r:=du (mN h)
theorem tJ (h:dgI r=some (g,q)):q<:+r:=by
 unfold dgI at h;split at h
 ·cases h; exact List.drop_suffix _ _
 ·cases h
end
theorem Ak {s r r2:By} {n z:Int} {w0:World} (hz:z=((s.length- r.length:Nat):Int)) (hsf:r<:+s) (hsl:s.length≤1000000) (hq:rdI r=some (n,r2)):
  Ff 63 #[sv s,jv z] w0 (.tuple #[jv n,jv ((s.length- r2.length:Nat):Int),jv 0]):=by
 subst hz;have:=jN s (s.length- r.length) w0 om hsl;unfold intV at this;rw[←List.suffix_iff_eq_drop.1 hsf,hq] at this;exact this
theorem yN {s r:By} {z:Int} {w0:World} (hz:z=((s.length- r.length:Nat):Int)) (hsf:r<:+s) (hsl:s.length≤1000000) (hq:rdI r=none):
  Ff 63 #[sv s,jv z] w0 (.tuple #[jv 0,jv 0,jv 10]):=by
 subst hz;have:=jN s (s.length- r.length) w0 om hsl;unfold intV at this;rw[←List.suffix_iff_eq_drop.1 hsf,hq] at this;exact this
theorem cC {M:Nat→Prop} {w0:World} (b:Nat) (s r r2:By) (n z:Int) (ws:World) (hz:z=((s.length- r.length:Nat):Int)) (hsf:r<:+s) (hsl:s.length≤1000000) (hq:rdI r=some (n,r2)) (U:St M w0 [blk b [sv s,jv z] 174] ws):
  Ret Tryz.prog 99 #[pq b] ws λu w=>u=jv n∧St M w0 [blk b [sv s,jv ((s.length- r2.length:Nat):Int)] 174] w:=by
 refine aD func99 O ntmps99 (lb O) λa Y=>?_;replace Y:=Y.p1 0 O;skip;refine aa λG1=>wla Y O λa Y=>G1<|ah λG2=>aL (aM λw1 hxz=>?_);replace U:=U.grow hxz;refine aP (k:=0) 8 [3,7] Y ?_;refine bB 8 (Y.p2 0 2 O) U<|pl_m O<|pl_v (aX O)<|pl_v (ac (v:=pq b) O kr)<|pl_w (λU=>ld U 0 O O (isAgg9 _) O)<|pl_m O<|pl_v (aX O)<|pl_v (ac (v:=po b 1) O kr)<|pl_w (λU=>ld U 0 O O (isAgg3 _) O) λa w2 Y U=>?_;replace Y:=Y.p4 0 2 10 14 O;refine ab<|aI (k:=8) 10 [9] ?_;refine au Y U call63 O (Ak hz hsf hsl hq) λa w3 Y U=>wlm Y O λa Y=>ab<|aP (k:=10) 15 [12,14] Y ?_;refine bB 5 (Y.p6 0 2 10 14 15 6 O) U<|pl_v (aj O O)<|pl_v (aj O O)<|pl_v (aj O O)<|pl_v (cH O)<|pl_v (cH O) λa w4 Y U=>?_;replace Y:=Y.p5 0 2 18 3 4 O;refine ab<|aI (k:=15) 16 [15] ?_;refine wla Y O λa Y=>ab<|aO<|G2<|ah λG3=>aa λG4=>nv Y<|AL O<|AK ((v_ne O O).asb (b':=false) O)<|λa Y=>G4<|aJ Y O ?_;refine ap<|G3<|aa λG5=>nv Y<|AL O<|AL O<|AK (aX O)<|AK (ac (v:=po b 1) O kr)<|λa Y=>aA 0 Y U [sv s,jv ((s.length- r2.length:Nat):Int)] O (sizeOf3 _) λa w5 Y U=>G5 ?_;refine aa λG6=>nv (Y.p2 2 3 O)<|AL O<|AM O<|λa Y=>G6<|ao<|am Y results99 (ae O ag) ?_;exact⟨O,U.select [0] de⟩
theorem co {M:Nat→Prop} {w0:World} (b:Nat) (s r:By) (z:Int) (ws:World) (hz:z=((s.length- r.length:Nat):Int)) (hsf:r<:+s) (hsl:s.length≤1000000) (hq:rdI r=none) (U:St M w0 [blk b [sv s,jv z] 174] ws):
  Pan Tryz.prog 99 #[pq b] ws λc w=>c=[{v:=.iface 171 (.agg #[]),recovered:=false}]∧St M w0 [blk b [sv s,jv z] 174] w:=by
 refine ph func99 O ntmps99 (lb O) λa Y=>?_;replace Y:=Y.p1 0 O;skip;refine aa λG1=>wla Y O λa Y=>G1<|ah λG2=>aL (aM λw1 hxz=>?_);replace U:=U.grow hxz;refine aP (k:=0) 8 [3,7] Y ?_;refine bB 8 (Y.p2 0 2 O) U<|pl_m O<|pl_v (aX O)<|pl_v (ac (v:=pq b) O kr)<|pl_w (λU=>ld U 0 O O (isAgg9 _) O)<|pl_m O<|pl_v (aX O)<|pl_v (ac (v:=po b 1) O kr)<|pl_w (λU=>ld U 0 O O (isAgg3 _) O) λa w2 Y U=>?_;replace Y:=Y.p4 0 2 10 14 O;refine ab<|aI (k:=8) 10 [9] ?_;refine au Y U call63 O (yN hz hsf hsl hq) λa w3 Y U=>wlm Y O λa Y=>ab<|aP (k:=10) 15 [12,14] Y ?_;refine bB 5 (Y.p6 0 2 10 14 15 6 O) U<|pl_v (aj O O)<|pl_v (aj O O)<|pl_v (aj O O)<|pl_v (cH O)<|pl_v (cH O) λa w4 Y U=>?_;replace Y:=Y.p5 0 2 18 3 4 O;refine ab<|aI (k:=15) 16 [15] ?_;refine wla Y O λa Y=>ab<|aO<|G2<|ah λG3=>aa λG4=>nv Y<|AL O<|AK ((v_ne O O).asb (b':=true) O)<|λa Y=>G4<|aC Y O ?_;refine bK<|aY 2 ?_;refine nv Y<|AK (aW (v:=.agg #[]) O kr)<|AK (dh O underlying171)<|λa Y=>ab<|eu Y O ?_;exact fw (X:=λc w=>c=[{v:=.iface 171 (.agg #[]),recovered:=false}]∧St M w0 [blk b [sv s,jv z] 174] w) Y ⟨O,U.select [0] de⟩
theorem tZ {M:Nat→Prop} {w0:World} (b:Nat) (s r r2:By) (x z:Int) (ws:World) (hz:z=((s.length- r.length:Nat):Int)) (hsf:r<:+s) (hsl:s.length≤1000000) (hq:kdI x r=some r2) (U:St M w0 [blk b [sv s,jv z] 174] ws):
  Ret Tryz.prog 101 #[pq b,jv x] ws λu w=>u=.tuple #[]∧St M w0 [blk b [sv s,jv ((s.length- r2.length:Nat):Int)] 174] w:=by
 refine aD func101 O ntmps101 (lb O) λa Y=>?_;replace Y:=Y.p2 0 1 O;skip;refine aa λG1=>wlm Y O λa Y=>bZ (R:=λu e'=>u=jv x∧e'=blk b [sv s,jv ((s.length- r2.length:Nat):Int)] 174) 0 Y U O de call99 O (λh=>(cC b s _ r2 x _ _ hz hsf hsl (mN hq) h).mono λu w ⟨h1,h2⟩=>⟨_,⟨h1,O⟩,h2⟩) ?_;clear Y U;rintro a w1 _ _ ⟨rfl,rfl⟩ Y U
 try dsimp only at U
 replace U:=U.n1 O;refine nv Y<|AL O<|AK ((v_ne O O).asb (b':=false) sm)<|λa Y=>G1<|aJ Y O ?_;refine ap<|cY Y results101 ag ?_;exact⟨O,U.select [0] de⟩
theorem rz {M:Nat→Prop} {w0:World} (b:Nat) (s r:By) (x z:Int) (ws:World) (hz:z=((s.length- r.length:Nat):Int)) (hsf:r<:+s) (hsl:s.length≤1000000) (hq:kdI x r=none) (U:St M w0 [blk b [sv s,jv z] 174] ws):
  Pan Tryz.prog 101 #[pq b,jv x] ws λc w=>c=[{v:=.iface 171 (.agg #[]),recovered:=false}]∧Ext M w0 w:=by
 refine ph func101 O ntmps101 (lb O) λa Y=>?_;replace Y:=Y.p2 0 1 O;skip;refine bY λ_ G1 hP1=>aY 1 ?_;refine wlm Y O λa Y=>ab ?_;rcases qg hq with hq1|⟨n,r2,hq1,hnx⟩
 ·refine tx (X:=λc=>c=[{v:=.iface 171 (.agg #[]),recovered:=false}]) 0 Y U O call99 O (λh=>(co b s r z _ hz hsf hsl hq1 h).mono λe w ⟨c,h1,h2,h3⟩=>⟨c,h1,_,h2,h3⟩) ?_;clear U;rintro _ w1 e9 rfl U;refine hP1 _ _ _ ?_;exact fw (X:=λc w=>c=[{v:=.iface 171 (.agg #[]),recovered:=false}]∧Ext M w0 w) Y ⟨O,U.ext⟩
 refine aY 1 ?_;refine bZ (R:=λu e'=>u=jv n∧e'=blk b [sv s,jv ((s.length- r2.length:Nat):Int)] 174) 0 Y U O de call99 O (λh=>(cC b s _ r2 n _ _ hz hsf hsl hq1 h).mono λu w ⟨h1,h2⟩=>⟨_,⟨h1,O⟩,h2⟩) ?_;clear Y U;rintro a w2 _ _ ⟨rfl,rfl⟩ Y U
 try dsimp only at U
 replace U:=U.n1 O;refine ab<|dN<|nv Y<|AL O<|AK (v_ne O O)<|λa Y=>G1<|bV Y O (λhc1=>?_) (λhc1=>?_)
 ·refine bK<|aY 2 ?_;refine nv Y<|AK (aW (v:=.agg #[]) O kr)<|AK (dh O underlying171)<|λa Y=>ab<|eu Y O ?_;exact fw (X:=λc w=>c=[{v:=.iface 171 (.agg #[]),recovered:=false}]∧Ext M w0 w) Y ⟨O,U.ext⟩
 exact absurd hc1 hnx
theorem yq {r g q:By} (h:dgI r=some (g,q)):32≤r.length∧q.length+32=r.length∧g=r.take 32:=by
 unfold dgI at h;split at h
 ·rename_i hl; cases h; exact⟨hl,by rw[Bb]; omega,rfl⟩
 ·cases h
theorem As {s r g q:By} (h:dgI r=some (g,q)) (hs:r<:+s):g=(s.drop (s.length- r.length)).take (s.length- r.length+32- (s.length- r.length)):=by
 rw[←List.suffix_iff_eq_drop.1 hs,show s.length- r.length+32- (s.length- r.length)=32 from by omega]; exact (yq h).2.2
theorem dg_no {r:By} (h:dgI r=none):r.length<32:=by
 unfold dgI at h;split at h
 ·cases h
 ·omega
theorem yC {M:Nat→Prop} {w0:World} (b:Nat) (s r r2 g:By) (z:Int) (ws:World) (hz:z=((s.length- r.length:Nat):Int)) (hsf:r<:+s) (hsl:s.length≤1000000) (hq:dgI r=some (g,r2)) (U:St M w0 [blk b [sv s,jv z] 174] ws):
  Ret Tryz.prog 102 #[pq b] ws λu w=>u=sv g∧St M w0 [blk b [sv s,jv ((s.length- r2.length:Nat):Int)] 174] w:=by
 have hsu:=hsf.length_le;obtain⟨hd1,hd2, -⟩:=yq hq;have hzz:=hz;refine aD func102 O ntmps102 (lb O) λa Y=>?_;replace Y:=Y.p1 0 O;skip;refine aa λG1=>wla Y O λa Y=>G1<|ah λG2=>ah λG3=>aL (aM λw1 hxz=>?_);replace U:=U.grow hxz;refine aP (k:=0) 9 [4,8] Y ?_;refine bB 9 (Y.p2 0 2 O) U<|pl_m O<|pl_v (aX O)<|pl_v (ac (v:=pq b) O kr)<|pl_w (λU=>ld U 0 O O (isAgg9 _) O)<|pl_v (aZ O O (runUnderlying9 _))<|pl_m O<|pl_v (aX O)<|pl_v (ac (v:=po b 1) O kr)<|pl_w (λU=>ld U 0 O O (isAgg3 _) O) λa w2 Y U=>?_;replace Y:=Y.p4 0 2 8 12 O;refine ab<|aI (k:=9) 11 [10] ?_;refine nv Y<|AK (bF O O ⟨om,om⟩)<|AK ((v_lt O O).asb (b':=false) (by exact AV (by rw[hz]; omega)))<|λa Y=>ab<|aO<|G3<|aJ Y O ?_;refine ap<|G2<|ah λG4=>aL (aM λw3 hxz=>?_);replace U:=U.grow hxz;refine aP (k:=0) 13 [3,7,12] Y ?_;refine bB 13 (Y.p6 0 2 8 12 13 14 O) U<|pl_m O<|pl_v (aX O)<|pl_v (ac (v:=pq b) O kr)<|pl_w (λU=>ld U 0 O O (isAgg9 _) O)<|pl_m O<|pl_v (aX O)<|pl_v (ac (v:=po b 1) O kr)<|pl_w (λU=>ld U 0 O O (isAgg3 _) O)<|pl_m O<|pl_v (aX O)<|pl_v (ac (v:=po b 1) O kr)<|pl_w (λU=>ld U 0 O O (isAgg3 _) O)<|pl_v ((aK O O ⟨om,om⟩).asi (m':=((s.length- r2.length:Nat):Int)) om) λa w4 Y U=>?_;replace Y:=Y.p5 0 2 20 24 29 O;refine ab<|aI (k:=13) 15 [14] ?_;refine nv Y<|AK ((gb (xs:=s) (l:=s.length- r.length) (h:=s.length- r.length+32) O O O underlying9 (.inr ⟨.i64,Bh (λi=>some (jv i)) hz⟩) (.inr ⟨.i64,Bh (λi=>some (jv i)) om⟩) om om).as (v':=sv g) (by rw[←As hq hsf]))<|AM O<|λa Y=>ab<|aO<|G4<|aa λG5=>nv Y<|AL O<|AK (aX O)<|AK (ac (v:=po b 1) O kr)<|AK (ld U 0 O O (isAgg3 _) O)<|AK ((aK O O ⟨om,om⟩).asi (m':=((s.length- r2.length:Nat):Int)) om)<|AK (aX O)<|AK (ac (v:=po b 1) O kr)<|λa Y=>aA 0 Y U [sv s,jv ((s.length- r2.length:Nat):Int)] O (sizeOf3 _) λa w5 Y U=>G5 ?_;refine aa λG6=>nv (Y.p2 2 3 O)<|AL O<|AM O<|λa Y=>G6<|ao<|am Y results102 (ae O ag) ?_;exact⟨O,U.select [0] de⟩
theorem ub {M:Nat→Prop} {w0:World} (b:Nat) (s r:By) (z:Int) (ws:World) (hz:z=((s.length- r.length:Nat):Int)) (hsf:r<:+s) (hsl:s.length≤1000000) (hq:dgI r=none) (U:St M w0 [blk b [sv s,jv z] 174] ws):
  Pan Tryz.prog 102 #[pq b] ws λc w=>c=[{v:=.iface 171 (.agg #[]),recovered:=false}]∧St M w0 [blk b [sv s,jv z] 174] w:=by
 have hsu:=hsf.length_le;have hd1:=dg_no hq;refine ph func102 O ntmps102 (lb O) λa Y=>?_;replace Y:=Y.p1 0 O;skip;refine aa λG1=>wla Y O λa Y=>G1<|ah λG2=>ah λG3=>aL (aM λw1 hxz=>?_);replace U:=U.grow hxz;refine aP (k:=0) 9 [4,8] Y ?_;refine bB 9 (Y.p2 0 2 O) U<|pl_m O<|pl_v (aX O)<|pl_v (ac (v:=pq b) O kr)<|pl_w (λU=>ld U 0 O O (isAgg9 _) O)<|pl_v (aZ O O (runUnderlying9 _))<|pl_m O<|pl_v (aX O)<|pl_v (ac (v:=po b 1) O kr)<|pl_w (λU=>ld U 0 O O (isAgg3 _) O) λa w2 Y U=>?_;replace Y:=Y.p4 0 2 8 12 O;refine ab<|aI (k:=9) 11 [10] ?_;refine nv Y<|AK (bF O O ⟨om,om⟩)<|AK ((v_lt O O).asb (b':=true) (by exact AQ (by rw[hz]; omega)))<|λa Y=>ab<|aO<|G3<|aC Y O ?_;refine bK<|aY 2 ?_;refine nv Y<|AK (aW (v:=.agg #[]) O kr)<|AK (dh O underlying171)<|λa Y=>ab<|eu Y O ?_;exact fw (X:=λc w=>c=[{v:=.iface 171 (.agg #[]),recovered:=false}]∧St M w0 [blk b [sv s,jv z] 174] w) Y ⟨O,U.select [0] de⟩
end Go.Proofs.YtliklcmddmpdfaaGreatDoor
namespace Go.Proofs.YtliklcmddmpdfaaGreatDoor
open Go.RowKit Go.PW _root_.Go.Proofs.Tryz
theorem vh {P:Program} {w:World} {L:List (Nat × Value)} {dst:Option Tmp} {T T' ty:TypeId} {pos:String} {af:Array Edge} {x y:Operand} (hx:ev L x=some .nilIface) (hy:ev L y=some .nilIface) (hr:(binOp .eql T .nilIface .nilIface).run P w=.ok (.bool true) w) (hg:(eqGuard .eql T x y .nilIface .nilIface).run P w=.ok () w):OpV P ⟨dst,.binOp .eql T x y T',ty,pos,af,none⟩ L w (.bool true):=
 ⟨rfl,λN df a h=>by
  simp only[execOp,h.eval hx,h.eval hy,Bp,hg,hr,Bj]; rfl⟩
theorem jH {M:Nat→Prop} {w0:World} (b2 b3 b4:Nat) (c0 c1 c2 c3 c4 c5 c6 c7 c8 c9 c10:Value) (ws:World) (U:St M w0 [blk b2 [c0,c1,c2,c3,c4,c5,c6,c7,c8] 90,blk b3 [c9] 91,blk b4 [c10] 41] ws):
  CallsDIn Fence.wide 0 Tryz.prog 98 #[pq b2,pq b3,pq b4] (.panicking [{v:=.iface 171 (.agg #[]),recovered:=false}]) ws λe u' w=>u'=(.panicking [{v:=.iface 171 (.agg #[]),recovered:=true}])∧∃x,e=.returned x∧St M w0 [blk b2 [jv 0,jv 0,jv 0,jv 0,jv 0,jv 0,jv 0,jv 0,sv ([]:By)] 90,blk b3 [.slice none 0 0] 91,blk b4 [jv 150] 41] w:=by
 refine o6 (args:=[pq b2,pq b3,pq b4]) func98 O ntmps98 (lb O) O O de (λ_ _=>O) (.inr ⟨O,O⟩) λa Y=>?_;replace Y:=Y.p4 6 0 1 2 O;skip;refine aw<|aa λG1=>wlv Y (lK O O kr kr) λa Y=>G1<|aJ Y O ?_;refine aa λG2=>nv Y<|AK (jy O underlying171)<|AK (aj O O)<|AK (aj O O)<|λa Y=>G2<|aC Y O ?_;refine aa λG3=>aE Y U (zeroValue171 _) [] O λa w1 Y U=>aA 0 Y U [] O (sizeOf171 _) λa w2 Y U=>G3 ?_;replace U:=U.k3 14 O;refine al<|wlv (Y.p3 0 1 2 O) (aW (v:=E5) O kr) λa Y=>aA 0 Y U E4 O (sizeOf90 _) λa w3 Y U=>aA 1 Y U [.slice none 0 0] O (sizeOf91 _) λa w4 Y U=>aA 2 Y U [jv 150] O (sizeOf41 _) λa w5 Y U=>ab ?_;refine jk Y results98 ag ?_;exact U.select [0,1,2] de
theorem vY (b2 b3 b4:Nat) (ws:World):
  CallsDIn Fence.wide 0 Tryz.prog 98 #[pq b2,pq b3,pq b4] .returning ws λe u' w=>u'=.returning∧∃x,e=.returned x∧Ext No ws w:=by
 refine o6 (args:=[pq b2,pq b3,pq b4]) func98 O ntmps98 (lb O) O O de (λ_ _=>O) (.inl ⟨O,O,O⟩) λa Y=>?_;replace U:St No ws [] ws:=St.init ws;refine aw<|aa λG1=>wlv (Y.p4 6 0 1 2 O) (vh O O kr kr) λa Y=>G1<|aC Y O ?_;refine al<|wla Y O λa Y=>ab ?_;refine jk Y results98 ag ?_;exact U.ext
theorem qV {M:Nat→Prop} {w0 w:World} (h:Ext M w0 w):St M w0 [join []] w:=
 ⟨h,λe he=>by rw[Bl.1 he]; exact⟨⟨λe he=>(by cases he),List.Pairwise.nil⟩,λk ⟨e,he,_⟩=>(by cases he)⟩,List.pairwise_singleton _ _⟩
theorem ya {l:List Pxy} {w:Wsh} {r:By} (h:r≠[]):shutH l w r=none:=Bc λhh=>h hh.1
theorem xI {l:List Pxy} {w:Wsh} {r:By} (h:cf w l=false):shutH l w r=none:=Bc λhh=>by rw[h] at hh; cases hh.2
theorem wO {l:List Pxy} {w:Wsh} {r:By} (h1:r=[]) (h2:cf w l=true):shutH l w r=some (w,l):=Bi ⟨h1,h2⟩
theorem zX {n a b:Int} (h:inB n a b=true):a≤n∧n≤b:=by simpa [inB] using h
section
variable {r:Option Nat} {ops:Array Oper} {rest:List Oper} {N:Nat} {L:List (Nat × Value)} {df:List Deferred} {a:Act} {w w0:World} {H:List Ent} {M:Nat→Prop} {K:Act→World→Prop} {Q:Exit→Act→World→Prop} {e e':Ent} {f:FuncId} {xs:List Operand} {vs:List Value} {ats:Array TypeId} {ty:TypeId} {pos:String} {af:Array Edge}
theorem er {d:Tmp} {v:Value} (i:Nat) (Y:Fr N L df a) (U:St M w0 H w) (hi:H[i]?=some e) (hen:∀args w,(callFunc f args).run Tryz.prog w=.ok (.enter f args) w) (hx:evs L xs=some vs) (hc:St e.foot w [e] w→Ret Tryz.prog f vs.toArray w λu w'=>u=v∧St e.foot w [e'] w') (hd:d<N)
  (k:∀a w',Fr N ((d,v)::L) df a→St M w0 (H.set i e') w'→WL Tryz.prog r ops K rest a w'):WL Tryz.prog r ops K (⟨some d,.call {callee:=.value (.func f),args:=xs.toArray,argTypes:=ats},ty,pos,af,none⟩::rest) a w:=
 bZ (R:=λu e2=>u=v∧e2=e') i Y U hi hd hen hx (λh=>(hc h).mono λu w' ⟨h1,h2⟩=>⟨_,⟨h1,rfl⟩,h2⟩) λa w' u e2 hR h1 h2=>by
  obtain⟨rfl,rfl⟩:=hR;exact k a w' h1 h2
theorem cT {fn:Func} {s:By} {dst:Option Tmp} {b2 b3 b4:Nat} {c0 c1 c2 c3 c4 c5 c6 c7 c8 c9 c10:Value} (i:Nat) (Y:Fr N L [{target:=.fn (.func 98) #[pq b2,pq b3,pq b4],args:=#[]}] a) (U:St No w0 H w) (hi:H[i]?=some e) (hen:∀args w,(callFunc f args).run Tryz.prog w=.ok (.enter f args) w) (hx:evs L xs=some vs) (hc:St e.foot w [e] w→Pan Tryz.prog f vs.toArray w λc w'=>c=[{v:=.iface 171 (.agg #[]),recovered:=false}]∧St e.foot w [e'] w') (hdn:bH s=none)
  (hs:∀e' w',St No w0 (H.set i e') w'→St No w0 [blk b2 [c0,c1,c2,c3,c4,c5,c6,c7,c8] 90,blk b3 [c9] 91,blk b4 [c10] 41] w') (hres:fn.results=#[.cell 2 90,.cell 3 91,.cell 4 41]) (h2:lk L 2=some (pq b2)) (h3:lk L 3=some (pq b3)) (h4:lk L 4=some (pq b4)) (hQ:∀w',PostD Tryz.prog fn (λv w=>(∃x ps,bH s=some (x,ps)∧MemR w0 (λlv:Value=>.tuple #[.agg x.cells.toArray,lv,jv 0]) (λlv=>[own lv 144 7 (ps.map Pxy.cells)]) (λ_=>True) v w)∨(bH s=none∧v=.tuple #[.agg #[jv 0,jv 0,jv 0,jv 0,jv 0,jv 0,jv 0,jv 0,sv ([]:By)],.slice none 0 0,jv 150]∧Ext No w0 w)) (.panic [{v:=.iface 171 (.agg #[]),recovered:=false}]) a w'→Q (.panic [{v:=.iface 171 (.agg #[]),recovered:=false}]) a w'):
  WX Tryz.prog r ops Q (⟨dst,.call {callee:=.value (.func f),args:=xs.toArray,argTypes:=ats},ty,pos,af,none⟩::rest) a w:=by
 refine tx (X:=λc=>c=[{v:=.iface 171 (.agg #[]),recovered:=false}]) i Y U hi hen hx (λh=>(hc h).mono λe w ⟨c,h1,h2,h3⟩=>⟨c,h1,_,h2,h3⟩) ?_;rintro _ w' e2 rfl hs2;exact hQ _ (dB (rs:=[.cell 2 90,.cell 3 91,.cell 4 41]) Y call98 (jH _ _ _ _ _ _ _ _ _ _ _ _ _ _ _ (hs _ _ hs2)) hres (λw9 U=>⟨(aB h2 (bA (U.g 0 O) (isAgg90 _) (sizeOf90 _)) (aB h3 (br (U.g 1 O) (isAgg91 _)) (aB h4 (br (U.g 2 O) (isAgg41 _)) ag))),.inr ⟨hdn,O,U.ext⟩⟩))
end
theorem mT (s:By) (w0:World) (hsl:s.length≤1000000):
  Ret Tryz.prog 39 #[sv s] w0 λv w=>(∃x ps,bH s=some (x,ps)∧MemR w0 (λlv:Value=>.tuple #[.agg x.cells.toArray,lv,jv 0]) (λlv=>[own lv 144 7 (ps.map Pxy.cells)]) (λ_=>True) v w)∨(bH s=none∧v=.tuple #[.agg #[jv 0,jv 0,jv 0,jv 0,jv 0,jv 0,jv 0,jv 0,sv ([]:By)],.slice none 0 0,jv 150]∧Ext No w0 w):=by
 refine tT func39 O ntmps39 (lb O) λa Y=>?_;replace U:St No w0 [] w0:=St.init w0;refine aa λG1=>aE (Y.p1 0 O) U (zeroValue90 _) E4 O λa w1 Y U=>aE Y U (zeroValue91 _) [.slice none 0 0] O λa w2 Y U=>aE Y U (zeroValue41 _) [jv 0] O λa w3 Y U=>G1<|aa λG2=>wlv Y (ct O O) λa Y=>qb Y O λa Y=>G2<|aa λG3=>nv Y<|AL O<|AK (aW (v:=.agg #[sv s,jv 0]) O kr)<|λa Y=>aR Y U O [sv s,jv 0] O λa w4 Y U=>wla Y O λa Y=>G3 ?_;have hd0:bH s=getI s (λn r=>if inB n 0 4=true then rdPxys n.toNat [] r tailH else none):=rfl;refine bY λ_ G4 hP4=>aY 1 ?_;refine wlm Y O λa Y=>ab ?_;rcases hq1:rdI s with _|⟨n3,r2⟩
 ·exact cT 0 Y U O call99 O (co _ s _ _ _ sm (List.suffix_refl s) hsl hq1) (hd0.trans (cR hq1)) (λ_ _ U=>U.select [3,2,1] de) results39 O O O (λ_ h=>hP4 _ _ _ h)
 have hd4:=hd0.trans (cZ hq1);have hs5:=(du hq1).trans (List.suffix_refl s);refine aY 1 ?_;refine er 0 Y U O call99 O (cC _ s _ _ n3 _ _ sm (List.suffix_refl s) hsl hq1) de λa w5 Y U=>?_;replace U:=U.n4 O;refine ab<|dN<|wla Y O λa Y=>G4 ?_;replace Y:=Y.p6 0 2 3 4 5 6 O;refine ah λG5=>aa λG6=>wlm Y O λa Y=>au Y U call100 O (dg n3 0 4 _) λa w6 Y U=>wlv Y (bd O) λa Y=>G6<|bn Y O (λhc6=>?_) (λhc6=>?_)
 ·try simp only[qz] at hc6
  have hdn:bH s=none:=hd4.trans (Bc (by rw[hc6]; decide));refine bK<|aY 2 ?_;refine nv Y<|AK (aW (v:=.agg #[]) O kr)<|AK (dh O underlying171)<|λa Y=>ab<|eu Y O ?_;replace U:=U.s3 [3,2,1] de rfl;exact dB Y call98 (jH _ _ _ _ _ _ _ _ _ _ _ _ _ _ _ U) results39 (λw9 U=>⟨(aB O (bA (U.g 0 O) (isAgg90 _) (sizeOf90 _)) (aB O (br (U.g 1 O) (isAgg91 _)) (aB O (br (U.g 2 O) (isAgg41 _)) ag))),.inr ⟨hdn,O,U.ext⟩⟩)
 try simp only[qz] at hc6
 have hd9:=hd4.trans (Bi hc6);have hib:=zX hc6;refine ap<|G5<|ah λG7=>?_;replace U:St No w0 [own (.slice none 0 0) 144 7 (([]:List Pxy).map Pxy.cells),blk w3.hz [sv s,jv ((s.length- r2.length:Nat):Int)] 174,blk w2.hz [jv 0] 41,blk w1.hz [.slice none 0 0] 91,blk w0.hz E4 90] w6:=U.nil_own;refine aa λG8=>nv Y<|AL O<|AL O<|λa Y=>G8<|aw<|aV (λm a w=>∃(k:Nat) (acc:List Pxy) (r:By) (lv:Value),m=n3.toNat- k∧((k:Int)≤n3)∧(bH s=rdPxys (n3.toNat- k) acc r tailH)∧(r<:+s)∧(acc.length=k)∧Fr 98 [(0,sv s),(2,pq w0.hz),(3,pq w1.hz),(4,pq w2.hz),(5,pq w3.hz),(23,jv n3),(24,jv (k:Int))] [{target:=.fn (.func 98) #[pq w0.hz,pq w1.hz,pq w2.hz],args:=#[]}] a∧St No w0 [blk w3.hz [sv s,jv ((s.length- r.length:Nat):Int)] 174,blk w0.hz E4 90,blk w1.hz [lv] 91,blk w2.hz [jv 0] 41,own lv 144 7 ((acc).map Pxy.cells)] w) _ ⟨0,[],r2,.slice none 0 0,O,om,hd9,hs5,O,Y.pick [0,2,3,4,5,23,24],U.select [1,4,3,2,0] de⟩ ?_;rintro _ a w7 ⟨k,acc,r,lv,rfl,hk,hdl,hsl2,hal,Y,U⟩;refine aa λG9=>wlv Y (v_lt O O) λa Y=>G9<|ah λG10=>ay Y O (λhc7=>?_) (λhc7=>?_)
 ·obtain⟨mm,hm⟩:∃m,n3.toNat- k=m+1:=⟨n3.toNat- k- 1,by omega⟩;rw[hm] at hdl;have hdk:bH s=kindI 2 r _:=hdl;refine ap<|G10<|ah λG11=>aw<|aa λG12=>aE Y U (zeroValue144 _) E6 O λa w8 Y U=>G12<|bY λ_ G13 hP13=>aY 1 ?_;refine wlm Y O λa Y=>ab ?_;rcases hq8:kdI 2 r with _|r9
  ·exact cT 1 Y U O call101 O (λh=>(rz _ s _ _ _ _ O hsl2 hsl hq8 h).mono λe w ⟨c,h1,h2,h3⟩=>⟨c,h1,h2,qV h3⟩) (hdk.trans (nU hq8)) (λ_ _ U=>U.select [2,3,4] de) results39 O O O (λ_ h=>hP13 _ _ _ h)
  have hd10:=hdk.trans (qP hq8);have hs11:=(tI hq8).trans hsl2;refine aY 1 ?_;refine er 1 Y U O call101 O (tZ _ s _ _ _ _ _ O hsl2 hsl hq8) de λa w9 Y U=>?_;replace U:=U.n6 O;refine ab<|dN<|G13<|ah λG14=>aa λG15=>nv Y<|AK (ac (v:=pq w7.hz) O kr)<|AK (ac (v:=po w7.hz 1) O kr)<|AK (ac (v:=po w7.hz 2) O kr)<|AK (ac (v:=po w7.hz 2) O kr)<|AK (ac (v:=po w7.hz 2) O kr)<|AK (ac (v:=po w7.hz 3) O kr)<|AK (ac (v:=po w7.hz 4) O kr)<|AK (ac (v:=po w7.hz 4) O kr)<|AK (ac (v:=po w7.hz 4) O kr)<|AK (ac (v:=po w7.hz 5) O kr)<|AK (aW (v:=.agg #[pq w7.hz,po w7.hz 1,po w7.hz 2,po w7.hz 3,po w7.hz 4,po w7.hz 5]) O kr)<|AL O<|λa Y=>G15 ?_;replace Y:=Y.p10 0 2 3 4 5 23 24 7 38 39 O;refine aw<|eA 7 ?_;refine bS<|aa λG16=>wlv Y ((v_lt O O).asb (b':=true) O) λa Y=>G16<|ah λG17=>aC Y O ?_;refine ap<|G17<|ah λG18=>aw<|aa λG19=>nv Y<|AK (cy (v:=pq w7.hz) O O kr)<|AM O<|λa Y=>G19<|bK<|aY 2 ?_;refine nv Y<|AL O<|AL O<|λa Y=>ab ?_;rcases hq12:rdI r9 with _|⟨n14,r13⟩
  ·exact cT 1 Y U O call99 O (co _ s _ _ _ O hs11 hsl hq12) (hd10.trans (cR hq12)) (λ_ _ U=>U.select [2,3,4] de) results39 O O O (λ_ h=>h)
  have hd15:=hd10.trans (cZ hq12);have hs16:=(du hq12).trans hs11;refine aY 1 ?_;refine er 1 Y U O call99 O (cC _ s _ _ n14 _ _ O hs11 hsl hq12) de λa w10 Y U=>?_;replace U:=U.n6 O;refine ab<|dN<|wlv Y (aX O) λa Y=>aA 0 Y U [jv n14,jv 0,jv 0,jv 0,jv 0,jv 0,.string (⟨#[]⟩)] O (sizeOf3 _) λa w11 Y U=>ab<|G18<|al<|nv (Y.p10 0 2 3 4 5 23 24 7 38 39 O)<|AK ((aK O O de).asi (m':=1) O)<|AL O<|λa Y=>ab<|bS<|aa λG20=>wlv Y ((v_lt O O).asb (b':=true) O) λa Y=>G20<|ah λG21=>aC Y O ?_;refine ap<|G21<|ah λG22=>aw<|aa λG23=>nv Y<|AK (cy (v:=po w7.hz 1) O O kr)<|AM O<|λa Y=>G23<|bK<|aY 2 ?_;refine nv Y<|AL O<|AL O<|λa Y=>ab ?_;rcases hq17:rdI r13 with _|⟨n19,r18⟩
  ·exact cT 1 Y U O call99 O (co _ s _ _ _ O hs16 hsl hq17) (hd15.trans (cR hq17)) (λ_ _ U=>U.select [2,3,4] de) results39 O O O (λ_ h=>h)
  have hd20:=hd15.trans (cZ hq17);have hs21:=(du hq17).trans hs16;refine aY 1 ?_;refine er 1 Y U O call99 O (cC _ s _ _ n19 _ _ O hs16 hsl hq17) de λa w12 Y U=>?_;replace U:=U.n6 O;refine ab<|dN<|wlv Y (aX O) λa Y=>aA 0 Y U [jv n14,jv n19,jv 0,jv 0,jv 0,jv 0,.string (⟨#[]⟩)] O (sizeOf3 _) λa w13 Y U=>ab<|G22<|al<|nv (Y.p10 0 2 3 4 5 23 24 7 38 39 O)<|AK ((aK O O de).asi (m':=2) O)<|AL O<|λa Y=>ab<|bS<|aa λG24=>wlv Y ((v_lt O O).asb (b':=true) O) λa Y=>G24<|ah λG25=>aC Y O ?_;refine ap<|G25<|ah λG26=>aw<|aa λG27=>nv Y<|AK (cy (v:=po w7.hz 2) O O kr)<|AM O<|λa Y=>G27<|bK<|aY 2 ?_;refine nv Y<|AL O<|AL O<|λa Y=>ab ?_;rcases hq22:rdI r18 with _|⟨n24,r23⟩
  ·exact cT 1 Y U O call99 O (co _ s _ _ _ O hs21 hsl hq22) (hd20.trans (cR hq22)) (λ_ _ U=>U.select [2,3,4] de) results39 O O O (λ_ h=>h)
  have hd25:=hd20.trans (cZ hq22);have hs26:=(du hq22).trans hs21;refine aY 1 ?_;refine er 1 Y U O call99 O (cC _ s _ _ n24 _ _ O hs21 hsl hq22) de λa w14 Y U=>?_;replace U:=U.n6 O;refine ab<|dN<|wlv Y (aX O) λa Y=>aA 0 Y U [jv n14,jv n19,jv n24,jv 0,jv 0,jv 0,.string (⟨#[]⟩)] O (sizeOf3 _) λa w15 Y U=>ab<|G26<|al<|nv (Y.p10 0 2 3 4 5 23 24 7 38 39 O)<|AK ((aK O O de).asi (m':=3) O)<|AL O<|λa Y=>ab<|bS<|aa λG28=>wlv Y ((v_lt O O).asb (b':=true) O) λa Y=>G28<|ah λG29=>aC Y O ?_;refine ap<|G29<|ah λG30=>aw<|aa λG31=>nv Y<|AK (cy (v:=po w7.hz 3) O O kr)<|AM O<|λa Y=>G31<|bK<|aY 2 ?_;refine nv Y<|AL O<|AL O<|λa Y=>ab ?_;rcases hq27:rdI r23 with _|⟨n29,r28⟩
  ·exact cT 1 Y U O call99 O (co _ s _ _ _ O hs26 hsl hq27) (hd25.trans (cR hq27)) (λ_ _ U=>U.select [2,3,4] de) results39 O O O (λ_ h=>h)
  have hd30:=hd25.trans (cZ hq27);have hs31:=(du hq27).trans hs26;refine aY 1 ?_;refine er 1 Y U O call99 O (cC _ s _ _ n29 _ _ O hs26 hsl hq27) de λa w16 Y U=>?_;replace U:=U.n6 O;refine ab<|dN<|wlv Y (aX O) λa Y=>aA 0 Y U [jv n14,jv n19,jv n24,jv n29,jv 0,jv 0,.string (⟨#[]⟩)] O (sizeOf3 _) λa w17 Y U=>ab<|G30<|al<|nv (Y.p10 0 2 3 4 5 23 24 7 38 39 O)<|AK ((aK O O de).asi (m':=4) O)<|AL O<|λa Y=>ab<|bS<|aa λG32=>wlv Y ((v_lt O O).asb (b':=true) O) λa Y=>G32<|ah λG33=>aC Y O ?_;refine ap<|G33<|ah λG34=>aw<|aa λG35=>nv Y<|AK (cy (v:=po w7.hz 4) O O kr)<|AM O<|λa Y=>G35<|bK<|aY 2 ?_;refine nv Y<|AL O<|AL O<|λa Y=>ab ?_;rcases hq32:rdI r28 with _|⟨n34,r33⟩
  ·exact cT 1 Y U O call99 O (co _ s _ _ _ O hs31 hsl hq32) (hd30.trans (cR hq32)) (λ_ _ U=>U.select [2,3,4] de) results39 O O O (λ_ h=>h)
  have hd35:=hd30.trans (cZ hq32);have hs36:=(du hq32).trans hs31;refine aY 1 ?_;refine er 1 Y U O call99 O (cC _ s _ _ n34 _ _ O hs31 hsl hq32) de λa w18 Y U=>?_;replace U:=U.n6 O;refine ab<|dN<|wlv Y (aX O) λa Y=>aA 0 Y U [jv n14,jv n19,jv n24,jv n29,jv n34,jv 0,.string (⟨#[]⟩)] O (sizeOf3 _) λa w19 Y U=>ab<|G34<|al<|nv (Y.p10 0 2 3 4 5 23 24 7 38 39 O)<|AK ((aK O O de).asi (m':=5) O)<|AL O<|λa Y=>ab<|bS<|aa λG36=>wlv Y ((v_lt O O).asb (b':=true) O) λa Y=>G36<|ah λG37=>aC Y O ?_;refine ap<|G37<|ah λG38=>aw<|aa λG39=>nv Y<|AK (cy (v:=po w7.hz 5) O O kr)<|AM O<|λa Y=>G39<|bK<|aY 2 ?_;refine nv Y<|AL O<|AL O<|λa Y=>ab ?_;rcases hq37:rdI r33 with _|⟨n39,r38⟩
  ·exact cT 1 Y U O call99 O (co _ s _ _ _ O hs36 hsl hq37) (hd35.trans (cR hq37)) (λ_ _ U=>U.select [2,3,4] de) results39 O O O (λ_ h=>h)
  have hd40:=hd35.trans (cZ hq37);have hs41:=(du hq37).trans hs36;refine aY 1 ?_;refine er 1 Y U O call99 O (cC _ s _ _ n39 _ _ O hs36 hsl hq37) de λa w20 Y U=>?_;replace U:=U.n6 O;refine ab<|dN<|wlv Y (aX O) λa Y=>aA 0 Y U [jv n14,jv n19,jv n24,jv n29,jv n34,jv n39,.string (⟨#[]⟩)] O (sizeOf3 _) λa w21 Y U=>ab<|G38<|al<|nv (Y.p10 0 2 3 4 5 23 24 7 38 39 O)<|AK ((aK O O de).asi (m':=6) O)<|AL O<|λa Y=>ab<|bS<|aa λG40=>wlv Y ((v_lt O O).asb (b':=false) O) λa Y=>G40<|ah λG41=>aJ Y O ?_;refine aN<|G14<|bY λ_ G42 hP42=>aY 1 ?_;refine wlm Y O λa Y=>ab ?_;rcases hq42:dgI r38 with _|⟨n44,r43⟩
  ·exact cT 1 Y U O call102 O (ub _ s _ _ _ O hs41 hsl hq42) (hd40.trans (me hq42)) (λ_ _ U=>U.select [2,3,4] de) results39 O O O (λ_ h=>hP42 _ _ _ h)
  have hd45:=hd40.trans (nZ hq42);have hs46:=(tJ hq42).trans hs41;refine aY 1 ?_;refine er 1 Y U O call102 O (yC _ s _ _ n44 _ _ O hs41 hsl hq42) de λa w22 Y U=>?_;replace U:=U.n6 O;refine ab<|dN<|wlv Y (ac (v:=po w7.hz 6) O kr) λa Y=>aA 0 Y U [jv n14,jv n19,jv n24,jv n29,jv n34,jv n39,sv n44] O (sizeOf9 _) λa w23 Y U=>G42 ?_;refine al<|nv (Y.p8 0 2 3 4 5 23 24 7 O)<|AK (ld U 3 O O (isAgg91 _) O)<|AK (ar (U.g 0 O) O (isAgg144 _) (sizeOf144 _))<|λa Y=>aG (E:=144) (sz:=7) O [[jv n14,jv n19,jv n24,jv n29,jv n34,jv n39,sv n44]] kr sm O de de Y U λa w24 Y U=>bc (i:=6) (sT:=91) (inf:=Tryz.t144) (z:=E7) (b:=0) (off:=0) (m:=0) (c:=0) O O O (U.ow 0 O) sm underlying91 O O O O de CK Dz Dz de Y U λa w25 s47 Y U _=>?_;replace U:St No w0 [own (.slice (some ⟨w23.hz,0,none⟩) 1 1) 144 7 ([[jv n14,jv n19,jv n24,jv n29,jv n34,jv n39,sv n44]]),blk w7.hz [jv n14,jv n19,jv n24,jv n29,jv n34,jv n39,sv n44] 144,blk w3.hz [sv s,jv ((s.length- r43.length:Nat):Int)] 174,blk w0.hz E4 90,blk w1.hz [lv] 91,blk w2.hz [jv 0] 41,own s47 144 7 ((acc++[(⟨n14,n19,n24,n29,n34,n39,n44⟩:Pxy)]).map Pxy.cells)] w25:=by rw[BI]; exact U
  refine ce 4 Y U (U.ow 6 O) O O O (sizeOf91 _) (lb O) (ds:=[s47]) O O λa w26 Y U=>ab<|G11<|al<|nv Y<|AK (aK O O ⟨om,om⟩)<|AL O<|λa Y=>ab ?_;refine⟨_,?_,k+1,acc++[(⟨n14,n19,n24,n29,n34,n39,n44⟩:Pxy)],r43,s47,O,om,(by rw[show n3.toNat- (k+1)=mm from by omega]; exact hd45),hs46,(by rw[AW,hal]; rfl),Y.pick [0,2,3,4,5,23,24],U.select [2,3,4,5,6] de⟩;omega
 have hm:n3.toNat- k=0:=by omega
 rw[hm] at hdl;have hdk:bH s=kindI 1 r _:=hdl;refine aN<|G7<|bY λ_ G43 hP43=>aY 1 ?_;refine wlm Y O λa Y=>ab ?_;rcases hq48:kdI 1 r with _|r49
 ·exact cT 0 Y U O call101 O (λh=>(rz _ s _ _ _ _ O hsl2 hsl hq48 h).mono λe w ⟨c,h1,h2,h3⟩=>⟨c,h1,h2,qV h3⟩) (hdk.trans (nU hq48)) (λ_ _ U=>U.select [1,2,3] de) results39 O O O (λ_ h=>hP43 _ _ _ h)
 have hd50:=hdk.trans (qP hq48);have hs51:=(tI hq48).trans hsl2;refine aY 1 ?_;refine er 0 Y U O call101 O (tZ _ s _ _ _ _ _ O hsl2 hsl hq48) de λa w27 Y U=>?_;replace U:=U.n5 O;refine ab<|dN<|G43<|ah λG44=>aa λG45=>nv (Y.p5 0 2 3 4 5 O)<|AK (ac (v:=pq w0.hz) O kr)<|AK (ac (v:=po w0.hz 1) O kr)<|AK (ac (v:=po w0.hz 2) O kr)<|AK (ac (v:=po w0.hz 2) O kr)<|AK (ac (v:=po w0.hz 2) O kr)<|AK (ac (v:=po w0.hz 3) O kr)<|AK (ac (v:=po w0.hz 4) O kr)<|AK (ac (v:=po w0.hz 5) O kr)<|AK (ac (v:=po w0.hz 6) O kr)<|AK (ac (v:=po w0.hz 6) O kr)<|AK (ac (v:=po w0.hz 6) O kr)<|AK (ac (v:=po w0.hz 7) O kr)<|AK (aW (v:=.agg #[pq w0.hz,po w0.hz 1,po w0.hz 2,po w0.hz 3,po w0.hz 4,po w0.hz 5,po w0.hz 6,po w0.hz 7]) O kr)<|AL O<|λa Y=>G45 ?_;replace Y:=Y.p7 0 2 3 4 5 69 70 O;refine aw<|eA 9 ?_;refine bS<|aa λG46=>wlv Y ((v_lt O O).asb (b':=true) O) λa Y=>G46<|ah λG47=>aC Y O ?_;refine ap<|G47<|ah λG48=>aw<|aa λG49=>nv Y<|AK (cy (v:=pq w0.hz) O O kr)<|AM O<|λa Y=>G49<|bK<|aY 2 ?_;refine nv Y<|AL O<|AL O<|λa Y=>ab ?_;rcases hq52:rdI r49 with _|⟨n54,r53⟩
 ·exact cT 0 Y U O call99 O (co _ s _ _ _ O hs51 hsl hq52) (hd50.trans (cR hq52)) (λ_ _ U=>U.select [1,2,3] de) results39 O O O (λ_ h=>h)
 have hd55:=hd50.trans (cZ hq52);have hs56:=(du hq52).trans hs51;refine aY 1 ?_;refine er 0 Y U O call99 O (cC _ s _ _ n54 _ _ O hs51 hsl hq52) de λa w28 Y U=>?_;replace U:=U.n5 O;refine ab<|dN<|wlv Y (aX O) λa Y=>aA 1 Y U [jv n54,jv 0,jv 0,jv 0,jv 0,jv 0,jv 0,jv 0,.string (⟨#[]⟩)] O (sizeOf3 _) λa w29 Y U=>ab<|G48<|al<|nv (Y.p7 0 2 3 4 5 69 70 O)<|AK ((aK O O de).asi (m':=1) O)<|AL O<|λa Y=>ab<|bS<|aa λG50=>wlv Y ((v_lt O O).asb (b':=true) O) λa Y=>G50<|ah λG51=>aC Y O ?_;refine ap<|G51<|ah λG52=>aw<|aa λG53=>nv Y<|AK (cy (v:=po w0.hz 1) O O kr)<|AM O<|λa Y=>G53<|bK<|aY 2 ?_;refine nv Y<|AL O<|AL O<|λa Y=>ab ?_;rcases hq57:rdI r53 with _|⟨n59,r58⟩
 ·exact cT 0 Y U O call99 O (co _ s _ _ _ O hs56 hsl hq57) (hd55.trans (cR hq57)) (λ_ _ U=>U.select [1,2,3] de) results39 O O O (λ_ h=>h)
 have hd60:=hd55.trans (cZ hq57);have hs61:=(du hq57).trans hs56;refine aY 1 ?_;refine er 0 Y U O call99 O (cC _ s _ _ n59 _ _ O hs56 hsl hq57) de λa w30 Y U=>?_;replace U:=U.n5 O;refine ab<|dN<|wlv Y (aX O) λa Y=>aA 1 Y U [jv n54,jv n59,jv 0,jv 0,jv 0,jv 0,jv 0,jv 0,.string (⟨#[]⟩)] O (sizeOf3 _) λa w31 Y U=>ab<|G52<|al<|nv (Y.p7 0 2 3 4 5 69 70 O)<|AK ((aK O O de).asi (m':=2) O)<|AL O<|λa Y=>ab<|bS<|aa λG54=>wlv Y ((v_lt O O).asb (b':=true) O) λa Y=>G54<|ah λG55=>aC Y O ?_;refine ap<|G55<|ah λG56=>aw<|aa λG57=>nv Y<|AK (cy (v:=po w0.hz 2) O O kr)<|AM O<|λa Y=>G57<|bK<|aY 2 ?_;refine nv Y<|AL O<|AL O<|λa Y=>ab ?_;rcases hq62:rdI r58 with _|⟨n64,r63⟩
 ·exact cT 0 Y U O call99 O (co _ s _ _ _ O hs61 hsl hq62) (hd60.trans (cR hq62)) (λ_ _ U=>U.select [1,2,3] de) results39 O O O (λ_ h=>h)
 have hd65:=hd60.trans (cZ hq62);have hs66:=(du hq62).trans hs61;refine aY 1 ?_;refine er 0 Y U O call99 O (cC _ s _ _ n64 _ _ O hs61 hsl hq62) de λa w32 Y U=>?_;replace U:=U.n5 O;refine ab<|dN<|wlv Y (aX O) λa Y=>aA 1 Y U [jv n54,jv n59,jv n64,jv 0,jv 0,jv 0,jv 0,jv 0,.string (⟨#[]⟩)] O (sizeOf3 _) λa w33 Y U=>ab<|G56<|al<|nv (Y.p7 0 2 3 4 5 69 70 O)<|AK ((aK O O de).asi (m':=3) O)<|AL O<|λa Y=>ab<|bS<|aa λG58=>wlv Y ((v_lt O O).asb (b':=true) O) λa Y=>G58<|ah λG59=>aC Y O ?_;refine ap<|G59<|ah λG60=>aw<|aa λG61=>nv Y<|AK (cy (v:=po w0.hz 3) O O kr)<|AM O<|λa Y=>G61<|bK<|aY 2 ?_;refine nv Y<|AL O<|AL O<|λa Y=>ab ?_;rcases hq67:rdI r63 with _|⟨n69,r68⟩
 ·exact cT 0 Y U O call99 O (co _ s _ _ _ O hs66 hsl hq67) (hd65.trans (cR hq67)) (λ_ _ U=>U.select [1,2,3] de) results39 O O O (λ_ h=>h)
 have hd70:=hd65.trans (cZ hq67);have hs71:=(du hq67).trans hs66;refine aY 1 ?_;refine er 0 Y U O call99 O (cC _ s _ _ n69 _ _ O hs66 hsl hq67) de λa w34 Y U=>?_;replace U:=U.n5 O;refine ab<|dN<|wlv Y (aX O) λa Y=>aA 1 Y U [jv n54,jv n59,jv n64,jv n69,jv 0,jv 0,jv 0,jv 0,.string (⟨#[]⟩)] O (sizeOf3 _) λa w35 Y U=>ab<|G60<|al<|nv (Y.p7 0 2 3 4 5 69 70 O)<|AK ((aK O O de).asi (m':=4) O)<|AL O<|λa Y=>ab<|bS<|aa λG62=>wlv Y ((v_lt O O).asb (b':=true) O) λa Y=>G62<|ah λG63=>aC Y O ?_;refine ap<|G63<|ah λG64=>aw<|aa λG65=>nv Y<|AK (cy (v:=po w0.hz 4) O O kr)<|AM O<|λa Y=>G65<|bK<|aY 2 ?_;refine nv Y<|AL O<|AL O<|λa Y=>ab ?_;rcases hq72:rdI r68 with _|⟨n74,r73⟩
 ·exact cT 0 Y U O call99 O (co _ s _ _ _ O hs71 hsl hq72) (hd70.trans (cR hq72)) (λ_ _ U=>U.select [1,2,3] de) results39 O O O (λ_ h=>h)
 have hd75:=hd70.trans (cZ hq72);have hs76:=(du hq72).trans hs71;refine aY 1 ?_;refine er 0 Y U O call99 O (cC _ s _ _ n74 _ _ O hs71 hsl hq72) de λa w36 Y U=>?_;replace U:=U.n5 O;refine ab<|dN<|wlv Y (aX O) λa Y=>aA 1 Y U [jv n54,jv n59,jv n64,jv n69,jv n74,jv 0,jv 0,jv 0,.string (⟨#[]⟩)] O (sizeOf3 _) λa w37 Y U=>ab<|G64<|al<|nv (Y.p7 0 2 3 4 5 69 70 O)<|AK ((aK O O de).asi (m':=5) O)<|AL O<|λa Y=>ab<|bS<|aa λG66=>wlv Y ((v_lt O O).asb (b':=true) O) λa Y=>G66<|ah λG67=>aC Y O ?_;refine ap<|G67<|ah λG68=>aw<|aa λG69=>nv Y<|AK (cy (v:=po w0.hz 5) O O kr)<|AM O<|λa Y=>G69<|bK<|aY 2 ?_;refine nv Y<|AL O<|AL O<|λa Y=>ab ?_;rcases hq77:rdI r73 with _|⟨n79,r78⟩
 ·exact cT 0 Y U O call99 O (co _ s _ _ _ O hs76 hsl hq77) (hd75.trans (cR hq77)) (λ_ _ U=>U.select [1,2,3] de) results39 O O O (λ_ h=>h)
 have hd80:=hd75.trans (cZ hq77);have hs81:=(du hq77).trans hs76;refine aY 1 ?_;refine er 0 Y U O call99 O (cC _ s _ _ n79 _ _ O hs76 hsl hq77) de λa w38 Y U=>?_;replace U:=U.n5 O;refine ab<|dN<|wlv Y (aX O) λa Y=>aA 1 Y U [jv n54,jv n59,jv n64,jv n69,jv n74,jv n79,jv 0,jv 0,.string (⟨#[]⟩)] O (sizeOf3 _) λa w39 Y U=>ab<|G68<|al<|nv (Y.p7 0 2 3 4 5 69 70 O)<|AK ((aK O O de).asi (m':=6) O)<|AL O<|λa Y=>ab<|bS<|aa λG70=>wlv Y ((v_lt O O).asb (b':=true) O) λa Y=>G70<|ah λG71=>aC Y O ?_;refine ap<|G71<|ah λG72=>aw<|aa λG73=>nv Y<|AK (cy (v:=po w0.hz 6) O O kr)<|AM O<|λa Y=>G73<|bK<|aY 2 ?_;refine nv Y<|AL O<|AL O<|λa Y=>ab ?_;rcases hq82:rdI r78 with _|⟨n84,r83⟩
 ·exact cT 0 Y U O call99 O (co _ s _ _ _ O hs81 hsl hq82) (hd80.trans (cR hq82)) (λ_ _ U=>U.select [1,2,3] de) results39 O O O (λ_ h=>h)
 have hd85:=hd80.trans (cZ hq82);have hs86:=(du hq82).trans hs81;refine aY 1 ?_;refine er 0 Y U O call99 O (cC _ s _ _ n84 _ _ O hs81 hsl hq82) de λa w40 Y U=>?_;replace U:=U.n5 O;refine ab<|dN<|wlv Y (aX O) λa Y=>aA 1 Y U [jv n54,jv n59,jv n64,jv n69,jv n74,jv n79,jv n84,jv 0,.string (⟨#[]⟩)] O (sizeOf3 _) λa w41 Y U=>ab<|G72<|al<|nv (Y.p7 0 2 3 4 5 69 70 O)<|AK ((aK O O de).asi (m':=7) O)<|AL O<|λa Y=>ab<|bS<|aa λG74=>wlv Y ((v_lt O O).asb (b':=true) O) λa Y=>G74<|ah λG75=>aC Y O ?_;refine ap<|G75<|ah λG76=>aw<|aa λG77=>nv Y<|AK (cy (v:=po w0.hz 7) O O kr)<|AM O<|λa Y=>G77<|bK<|aY 2 ?_;refine nv Y<|AL O<|AL O<|λa Y=>ab ?_;rcases hq87:rdI r83 with _|⟨n89,r88⟩
 ·exact cT 0 Y U O call99 O (co _ s _ _ _ O hs86 hsl hq87) (hd85.trans (cR hq87)) (λ_ _ U=>U.select [1,2,3] de) results39 O O O (λ_ h=>h)
 have hd90:=hd85.trans (cZ hq87);have hs91:=(du hq87).trans hs86;refine aY 1 ?_;refine er 0 Y U O call99 O (cC _ s _ _ n89 _ _ O hs86 hsl hq87) de λa w42 Y U=>?_;replace U:=U.n5 O;refine ab<|dN<|wlv Y (aX O) λa Y=>aA 1 Y U [jv n54,jv n59,jv n64,jv n69,jv n74,jv n79,jv n84,jv n89,.string (⟨#[]⟩)] O (sizeOf3 _) λa w43 Y U=>ab<|G76<|al<|nv (Y.p7 0 2 3 4 5 69 70 O)<|AK ((aK O O de).asi (m':=8) O)<|AL O<|λa Y=>ab<|bS<|aa λG78=>wlv Y ((v_lt O O).asb (b':=false) O) λa Y=>G78<|ah λG79=>aJ Y O ?_;refine aN<|G44<|bY λ_ G80 hP80=>aY 1 ?_;refine wlm Y O λa Y=>ab ?_;rcases hq92:dgI r88 with _|⟨n94,r93⟩
 ·exact cT 0 Y U O call102 O (ub _ s _ _ _ O hs91 hsl hq92) (hd90.trans (me hq92)) (λ_ _ U=>U.select [1,2,3] de) results39 O O O (λ_ h=>hP80 _ _ _ h)
 have hd95:=hd90.trans (nZ hq92);have hs96:=(tJ hq92).trans hs91;refine aY 1 ?_;refine er 0 Y U O call102 O (yC _ s _ _ n94 _ _ O hs91 hsl hq92) de λa w44 Y U=>?_;replace U:=U.n5 O;refine ab<|dN<|wlv Y (ac (v:=po w0.hz 8) O kr) λa Y=>aA 1 Y U [jv n54,jv n59,jv n64,jv n69,jv n74,jv n79,jv n84,jv n89,sv n94] O (sizeOf9 _) λa w45 Y U=>G80 ?_;refine ah λG81=>aa λG82=>nv (Y.p5 0 2 3 4 5 O)<|AL O<|AK (aX O)<|AK (ac (v:=po w3.hz 1) O kr)<|AK (ld U 0 O O (isAgg3 _) O)<|AL O<|AK (aZ O O (runUnderlying9 _))<|AK (v_lt O O)<|AL O<|λa Y=>?_;rcases Decidable.em (((s.length- r93.length:Nat):Int)<(s.length:Int)) with hb97|hb97
 ·rw[AQ hb97] at Y;have hdn:=hd95.trans (ya DS);refine nv Y<|AO<|AO<|AO<|AO<|AK (aq O O)<|λa Y=>G82 ?_;replace Y:=Y.p4 2 3 4 93 O;replace U:=U.k4 30 O;refine aC Y O ?_;refine bK<|aY 2 ?_;refine nv Y<|AK (aW (v:=.agg #[]) O kr)<|AK (dh O underlying171)<|λa Y=>ab<|eu Y O ?_;replace U:=U.s3 [0,1,2] de rfl;exact dB Y call98 (jH _ _ _ _ _ _ _ _ _ _ _ _ _ _ _ U) results39 (λw9 U=>⟨(aB O (bA (U.g 0 O) (isAgg90 _) (sizeOf90 _)) (aB O (br (U.g 1 O) (isAgg91 _)) (aB O (br (U.g 2 O) (isAgg41 _)) ag))),.inr ⟨hdn,O,U.ext⟩⟩)
 rw[AV hb97] at Y;have hrn:r93=[]:=Bq (by have:=hs96.length_le; omega);refine nv Y<|AN (ar (U.g 1 O) O (isAgg90 _) (sizeOf90 _))<|AN (ld U 2 O O (isAgg91 _) O)<|λa Y=>aF Y U call90 O (qf (x:=(⟨n54,n59,n64,n69,n74,n79,n84,n89,n94⟩:Wsh)) (ps:=acc) (U.ow 4 O)) λa w46 Y U=>nv Y<|AN (bd O)<|AK (ak O O)<|λa Y=>G82 ?_;replace Y:=Y.p4 2 3 4 93 O;replace U:=U.k4 30 O;refine bn Y O (λhc98=>?_) (λhc98=>?_)
 ·try simp only[qz] at hc98
  have hdn:=hd95.trans (xI hc98);refine bK<|aY 2 ?_;refine nv Y<|AK (aW (v:=.agg #[]) O kr)<|AK (dh O underlying171)<|λa Y=>ab<|eu Y O ?_;replace U:=U.s3 [0,1,2] de rfl;exact dB Y call98 (jH _ _ _ _ _ _ _ _ _ _ _ _ _ _ _ U) results39 (λw9 U=>⟨(aB O (bA (U.g 0 O) (isAgg90 _) (sizeOf90 _)) (aB O (br (U.g 1 O) (isAgg91 _)) (aB O (br (U.g 2 O) (isAgg41 _)) ag))),.inr ⟨hdn,O,U.ext⟩⟩)
 try simp only[qz] at hc98
 have hd8:=hd95.trans (wO hrn hc98);refine ap<|G81<|ah λG83=>aL (aM λw47 hxz=>?_);replace U:=U.grow hxz;refine aP (k:=0) 3 [1,2] Y ?_;replace Y:=Y.p3 2 3 4 O;replace U:=U.s4 [0,1,2,3] de rfl;refine lZ [2] (λq=>if q=2 then blk w0.hz [jv n54,jv n59,jv n64,jv n69,jv n74,jv n79,jv n84,jv n89,sv n94] 90 else join []) (λq=>if q=2 then blk w0.hz [jv n54,jv n59,jv n64,jv n69,jv n74,jv n79,jv n84,jv n89,sv n94] 90 else join []) 3 [[],[],[0]] (λi=>match i with|0=>pv (.agg #[jv n54,jv n59,jv n64,jv n69,jv n74,jv n79,jv n84,jv n89,sv n94])|1=>pv (lv)|2=>λv E=>v=undef∧E=[]|_=>λ_ _=>False) EI Y (H:=[blk w1.hz [lv] 91,blk w2.hz [jv 0] 41,own lv 144 7 ((acc).map Pxy.cells)]) U kr kr kr kr de de ?_ ?_ ?_ ?_ ?_ ?_
 ·intro i v E h
  match i,h with
  | 0,_=>exact by decide
  | 1,_=>exact by decide
  | 2,_=>exact by decide
  | i+3,h=>exact h.elim
 ·intro q v E hq h;simp only[A0,A4,Bm] at hq;rcases hq with rfl<;>exact h
 ·intro q hq;simp only[A0,A4,Bm] at hq;rcases hq with rfl<;>exact⟨rfl,rfl⟩
 ·intro i hi hiq e
  match i,hi,hiq with
  | 0,_,_=>exact λw U=>OpV.g (ar (zl (F:=λq=>if q=2 then blk w0.hz [jv n54,jv n59,jv n64,jv n69,jv n74,jv n79,jv n84,jv n89,sv n94] 90 else join []) (q:=2) (U.g 0 O)) O (isAgg90 _) (sizeOf90 _))
  | 1,_,_=>exact λw U=>OpV.g (ld U 1 O O (isAgg91 _) O)
  | 2,_,h=>exact absurd de h
 ·intro q hq;simp only[A0,A4,Bm] at hq;rcases hq with rfl
  ·rintro _ _ ⟨rfl,rfl⟩;intro w h;exact dG (cs:=[jv n54,jv n59,jv n64,jv n69,jv n74,jv n79,jv n84,jv n89,sv n94]) (ds:=[jv n54,jv n59,jv n64,jv n69,jv n74,jv n79,jv n84,jv n89,sv n94]) O O h (sizeOf90 _) O (lb O) O
 clear Y U;rintro _ _ ⟨rfl,rfl⟩ _ _ ⟨rfl,rfl⟩ a w48 Y U;replace Y:=Y.p5 96 97 2 3 4 O
 try dsimp only at U
 replace U:=U.n4 O;refine ab<|aI (k:=3) 5 [4] ?_;refine ce 1 Y U (U.ow 3 O) O O O (sizeOf91 _) (lb O) (ds:=[lv]) O O λa w49 Y U=>aA 2 Y U [jv 0] O (sizeOf41 _) λa w50 Y U=>ab<|aO<|G83<|ao<|qp (vs:=[.agg #[jv n54,jv n59,jv n64,jv n69,jv n74,jv n79,jv n84,jv n89,sv n94],lv,jv 0]) Y call98 (vY _ _ _ _) results39 (λw9 hx=>?_);have U:=U.grow hx;exact⟨(aB O (bA (U.g 0 O) (isAgg90 _) (sizeOf90 _)) (aB O (br (U.g 1 O) (isAgg91 _)) (aB O (br (U.g 2 O) (isAgg41 _)) ag))),.inl ⟨_,_,hd8,_,O,trivial,U.ext,St.out (H:=[]) (U.select [3] de)⟩⟩
end Go.Proofs.YtliklcmddmpdfaaGreatDoor
namespace Go.Proofs.YtliklcmddmpdfaaGreatDoor
open Go.RowKit Go.PW _root_.Go.Proofs.Tryz
theorem zg {s:By} {p i:Nat} (hp:p+i<s.length):gv ((s.drop p).take (i+1))=gv ((s.drop p).take i)+(s.getD (p+i) 0).toNat%128*2 ^ (7*i):=by
 have e:(s.drop p).take (i+1)=(s.drop p).take i++[s.getD (p+i) 0]:=by
  rw[take_one DB];congr 2;simp[AY]
 rw[e,j1,p128,AX,Bb,Nat.min_eq_left om]
theorem AE {s:By} {p i z:Nat} (hi:i<9) (hp:p+i<s.length) (hl:∀c∈(s.drop p).take i,128≤c.toNat) (hz:z=gv ((s.drop p).take i)) (hb:(s.getD (p+i) 0).toNat<128) {Z:Nat} (hZ:Z=z+(s.getD (p+i) 0).toNat%128*2 ^ (7*i)):
  rdI (s.drop p)=if vb 8 Z=(s.drop p).take (i+1)∧ -4611686018427387903≤uz Z then some (uz Z,s.drop (p+(i+1))) else none:=by
 have e0:s.drop p=(s.drop p).take i++s.getD (p+i) 0::s.drop (p+(i+1)):=by
  rw[show s.drop (p+(i+1))=(s.drop p).drop (i+1) from by rw[Cm],]
  have e1:(s.drop p).drop i=s.getD (p+i) 0::(s.drop p).drop (i+1):=by
   rw[lu DB];congr 1;simp[AY]
  rw[←e1,BU]
 have e2:(s.drop p).take (i+1)=(s.drop p).take i++[s.getD (p+i) 0]:=by
  rw[take_one DB];congr 2;simp[AY]
 have hlen:((s.drop p).take i).length=i:=by rw[AX,Bb]; omega
 have h:=Am (l:=(s.drop p).take i) (r:=s.drop (p+(i+1))) (b:=s.getD (p+i) 0) om hl hb;rw[←e0,j1,←hz,hlen,p128,←hZ,←e2] at h;exact h
def putR (n:Int):By × Int:=if-4611686018427387903≤n then (putI n,0) else ([],10)
theorem y8 (Z:Nat) {t:By} {e:Int} (h:putR (uz Z)=(t,e)):(e=0∧ -4611686018427387903≤uz Z∧t=vb 8 Z)∨(e≠0∧¬ -4611686018427387903≤uz Z):=by
 unfold putR at h;split at h
 ·rename_i hc;simp only[Prod.mk.injEq] at h;left; exact⟨h.2.symm,hc,by rw[←h.1]; unfold putI; rw[Ab]⟩
 ·rename_i hc;simp only[Prod.mk.injEq] at h;right; exact⟨by rw[←h.2]; decide,hc⟩
def intR (s:By) (p:Nat):Int × Int × Int:=match rdI (s.drop p) with
 | some (n,r)=>(n,((s.length- r.length:Nat):Int),0)
 | none=>(0,0,10)
theorem Ay (s:By) (p:Nat):intV s p=.tuple #[jv (intR s p).1,jv (intR s p).2.1,jv (intR s p).2.2]:=by
 unfold intV intR;cases rdI (s.drop p) with
 | none=>rfl
 | some x=>rfl
theorem yF {s:By} {p:Nat} {n x e:Int} (h:intR s p=(n,x,e)) (he:e=0):∃r,rdI (s.drop p)=some (n,r)∧x=((s.length- r.length:Nat):Int)∧s.drop (s.length- r.length)=r∧r.length<s.length:=by
 unfold intR at h;cases hq:rdI (s.drop p) with
 | none=>rw[hq] at h; simp only[Prod.mk.injEq] at h; rw[←h.2.2] at he; cases he
 | some z=>
  obtain⟨m,r⟩:=z;rw[hq] at h;simp only[Prod.mk.injEq] at h;obtain⟨h1,h2⟩:=eQ hq;have h3:=Bh List.length h2;have h4:=(bQ m).1;rw[Bb,AW] at h3;refine⟨r,by rw[h.1],h.2.1.symm,?_,by omega⟩;have h5:s=(s.take p++putI m)++r:=by rw[Bu,←h2,BU]
  have h6:s.length=(s.take p++putI m).length+r.length:=by rw[←AW,←h5]
  have h7:=Ce (l₁:=s.take p++putI m) (l₂:=r);rw[←h5] at h7;rw[show s.length- r.length=(s.take p++putI m).length from by omega];exact h7
theorem yi {s:By} {p:Nat} {n x e:Int} (h:intR s p=(n,x,e)) (he:¬e=0):rdI (s.drop p)=none:=by
 unfold intR at h;cases hq:rdI (s.drop p) with
 | none=>rfl
 | some z=>rw[hq] at h; simp only[Prod.mk.injEq] at h; exact absurd h.2.2.symm he
theorem rg (n:Int) (w0:World) (hs:n< -4611686018427387903):
  Ff 129 #[jv n] w0 (.tuple #[sv [],jv 10]):=by
 refine Cy func129 O ntmps129 (lb O) λa Y U=>aa λG1=>nv Y<|AM O<|AM O<|λa Y=>G1<|ah λG2=>aa λG3=>nv Y<|AL O<|AK ((v_lt O O).asb (b':=true) (by exact AQ om))<|AL O<|AO<|AO<|AK (aq O O)<|λa Y=>G3<|aC Y O ?_;refine aa λG4=>nv Y<|AM O<|AM O<|λa Y=>G4 ?_;replace Y:=Y.p3 0 2 3 O;refine ao<|am Y results129 (ae O (ae O ag)) ?_;exact⟨by rfl,U.ext⟩
theorem kJ {n e:Int} {t:By} {w0:World} (h:putR n=(t,e)) (hn:n≤4611686018427387903):Ff 129 #[jv n] w0 (.tuple #[sv t,jv e]):=by
 unfold putR at h;split at h
 ·cases h; exact dL n w0 ⟨by assumption,hn⟩
 ·cases h; exact rg n w0 om
theorem kb (s:By) (p:Nat) (w0:World) (hp:p≤s.length) (hsl:s.length≤1000000):
  Ff 153 #[sv s,jv (p:Int)] w0 (intV s p):=by
 refine Cx func153 O ntmps153 (lb O) λa Y U=>aa λG1=>nv Y<|AM O<|AM O<|AM O<|λa Y=>G1<|ah λG2=>aa λG3=>nv Y<|AL O<|AK ((v_lt O O).asb (b':=false) DA)<|AL O<|AN (ax O)<|AN (ax O)<|AN (aZ O O (runUnderlying9 _))<|AN ((v_gt O O).asb (b':=false) DA)<|AK (ak O O)<|λa Y=>G3 ?_;replace Y:=Y.p6 0 1 4 5 6 20 O;refine aJ Y O ?_;refine ap<|G2<|aa λG4=>wla Y O λa Y=>G4<|ah λG5=>aa λG6=>wla Y O λa Y=>G6<|aw<|aV (λm a w=>∃(i:Nat) (z:Nat),m=9- i∧(i≤9)∧(p+i≤s.length)∧(∀c∈(s.drop p).take i,128≤c.toNat)∧(z=gv ((s.drop p).take i))∧(z<2 ^ (7*i))∧Fr 80 [(0,sv s),(1,jv (p:Int)),(7,.int .u64 (z:Int)),(8,jv (i:Int))] [] a∧St No w0 [] w) _ ⟨0,0,O,de,om,sm,O,de,Y.pick [0,1,7,8],U.select [] de⟩ ?_;rintro _ a w1 ⟨i,z,rfl,hi,hpi0,hl,hzg,hzb,Y,U⟩;refine ah λG7=>aa λG8=>nv Y<|AL O<|AK (v_lt O O)<|AL O<|λa Y=>?_;rcases Decidable.em ((i:Int)<9) with hb1|hb1
 ·rw[AQ hb1] at Y;refine nv Y<|AN (ax O)<|AN (ax O)<|AN (aK O O ⟨om,om⟩)<|AN (ax O)<|AN (aZ O O (runUnderlying9 _))<|AN (v_lt O O)<|AK (aq O O)<|λa Y=>G8 ?_;replace Y:=Y.p5 0 1 7 8 30 O;refine ay Y O (λhc2=>?_) (λhc2=>?_)
  ·have hpi:p+i<s.length:=by omega
   have hm8:(s.getD (p+i) 0).toNat%128<128:=Nat.mod_lt _ de;have hzl:=xQ hzb hm8;have hz6:=z_63 (i:=i) om hzl;refine ap<|G7<|ah λG9=>aw<|aa λG10=>nv Y<|AL O<|AL O<|AL O<|AK (aK O O ⟨om,om⟩)<|AK (gN (k:=(p+i)) O O (runUnderlying9 _) om om)<|AK (ol O kr underlying190)<|AM O<|λa Y=>G10 ?_;refine aa λG11=>nv (Y.p5 0 1 7 8 9 O)<|AL O<|AL O<|AK (sC (m:=(s.getD (p+i) 0).toNat) (n:=128) de O O)<|AL O<|AK ((ey O O ⟨om,om⟩).asi (m':=((7*i:Nat):Int)) om)<|AK ((sX (m:=(s.getD (p+i) 0).toNat%128) (n:=7*i) om O O).asi (m':=(((s.getD (p+i) 0).toNat%128*2 ^ (7*i):Nat):Int)) (by rw[Nat.mod_eq_of_lt om]))<|AK (ww (m:=z) (n:=(s.getD (p+i) 0).toNat%128*2 ^ (7*i)) om O O)<|AM O<|λa Y=>G11 ?_;replace Y:=Y.p5 0 1 8 9 7 O;refine ah λG12=>aa λG13=>nv Y<|AL O<|AK (v_ge O O)<|λa Y=>G13<|ay Y O (λhc3=>?_) (λhc3=>?_)
   ·refine aN<|G9<|al<|nv Y<|AL O<|AK (aK O O ⟨om,om⟩)<|AM O<|λa Y=>ab ?_;refine⟨_,?_,i+1,(z+(s.getD (p+i) 0).toNat%128*2 ^ (7*i)),O,om,om,(by intro c hc; rw[take_one DB,BO,Bl] at hc; rcases hc with hc|rfl; exact hl c hc; simp only[AY,BX] at*; omega),(by rw[zg hpi,←hzg]),hzl,Y.pick [0,1,7,8],U.select [] de⟩;omega
   obtain⟨Z,hZ⟩:∃Z,Z=(z+(s.getD (p+i) 0).toNat%128*2 ^ (7*i)):=⟨_,rfl⟩;have hra:=AE om hpi hl hzg om hZ;obtain⟨pt,pe,hpt⟩:∃t e,putR (uz Z)=(t,e):=⟨_,_,rfl⟩;have hps:=y8 Z hpt;refine ap<|G12<|aa λG14=>nv Y<|AL O<|AK (wC (m:=(z+(s.getD (p+i) 0).toNat%128*2 ^ (7*i))) (n:=2) om de O O)<|AK (iy (n:=(z+(s.getD (p+i) 0).toNat%128*2 ^ (7*i)) / 2) om O kr underlying3)<|AM O<|λa Y=>G14 ?_;replace Y:=Y.p5 0 1 8 7 10 O;refine ah λG15=>aa λG16=>nv Y<|AL O<|AK (sC (m:=(z+(s.getD (p+i) 0).toNat%128*2 ^ (7*i))) (n:=2) de O O)<|AK (v_eq O O)<|λa Y=>G16<|ay Y O (λhc4=>?_) (λhc4=>?_)
   ·have huz: -(((z+(s.getD (p+i) 0).toNat%128*2 ^ (7*i)) / 2:Nat):Int)- 1=uz Z:=by rw[hZ]; unfold uz; rw[Bc om]
    refine al<|nv Y<|AL O<|AK (kD O om om)<|AK (bF O O ⟨om,om⟩)<|AM O<|λa Y=>ab<|G15<|aa λG17=>wlm (Y.p5 0 1 8 7 10 O) O λa Y=>au Y U call129 O (kJ (n:=(-(((z+(s.getD (p+i) 0).toNat%128*2 ^ (7*i)) / 2:Nat):Int))- 1) (t:=pt) (e:=pe) (by rw[huz]; exact hpt) om) λa w2 Y U=>nv Y<|AL O<|AK (aj O O)<|AK (aj O O)<|AM O<|AM O<|λa Y=>G17<|ah λG18=>aa λG19=>nv Y<|AL O<|AK (v_ne O O)<|AL O<|λa Y=>?_;rcases (Decidable.em (pe=0)).symm with hb5|hb5
    ·rw[AV hb5] at Y;refine nv Y<|AO<|AO<|AO<|AO<|AO<|AO<|AO<|AO<|AO<|AK (aq O O)<|λa Y=>G19 ?_;replace Y:=Y.p6 0 1 8 7 10 74 O;refine aC Y O ?_;refine aa λG20=>nv Y<|AM O<|AM O<|AM O<|λa Y=>G20<|ao<|am Y results153 (ae O (ae O (ae O ag))) ?_;refine⟨?_,U.ext⟩
     have hrn:rdI (s.drop p)=none:=by
      rw[hra]; refine Bc λhc=>?_;rcases hps with⟨h1,h2,h3⟩|⟨h1,h2⟩
      ·exact hb5 h1
      ·exact h2 hc.2
     unfold intV; rw[hrn]; rfl
    rw[AQ hb5] at Y;refine nv Y<|AN (ax O)<|AN (ax O)<|AN (ax O)<|AN (ax O)<|AN (ax O)<|AN (aK O O ⟨om,om⟩)<|AN (aK O O ⟨om,om⟩)<|AN ((eN (xs:=s) (l:=p) (h:=(p+i+1)) O O O underlying9 (.inr EL) (.inr D4) om DQ).as (v':=sv ((s.drop p).take ((p+i+1)- p))) O)<|AN (mB O O)<|AK (ak O O)<|λa Y=>G19 ?_;replace Y:=Y.p6 0 1 8 7 10 74 O;refine bV Y O (λhc6=>?_) (λhc6=>?_)
    ·rw[show (p+i+1)- p=i+1 from by omega] at hc6;refine aa λG21=>nv Y<|AM O<|AM O<|AM O<|λa Y=>G21<|ao<|am Y results153 (ae O (ae O (ae O ag))) ?_;refine⟨?_,U.ext⟩
     have hrn:rdI (s.drop p)=none:=by
      rw[hra]; refine Bc λhc=>?_;rcases hps with⟨h1,h2,h3⟩|⟨h1,h2⟩
      ·exact hc6 (h3.trans hc.1)
      ·exact h2 hc.2
     unfold intV; rw[hrn]; rfl
    rw[show (p+i+1)- p=i+1 from by omega] at hc6;refine ap<|G18<|aa λG22=>nv Y<|AL O<|AL O<|AL O<|AK (aK O O ⟨om,om⟩)<|AK (aK O O ⟨om,om⟩)<|AM O<|AM O<|AM O<|λa Y=>G22 ?_;replace Y:=Y.p7 0 1 8 7 4 5 6 O;refine ao<|am Y results153 (ae O (ae O (ae O ag))) ?_;refine⟨?_,U.ext⟩
    have hrs:rdI (s.drop p)=some (uz Z,s.drop (p+(i+1))):=by
     rw[hra]; refine Bi ?_; rcases hps with⟨h1,h2,h3⟩|⟨h1,h2⟩
     ·exact⟨h3.symm.trans hc6,h2⟩
     ·exact absurd hb5 h1
    unfold intV; rw[hrs]; simp only[retv,Bb]; rw[huz,show ((s.length- (s.length- (p+(i+1))):Nat):Int)=(p:Int)+(i:Int)+1 from by omega]
   have huz:(((z+(s.getD (p+i) 0).toNat%128*2 ^ (7*i)) / 2:Nat):Int)=uz Z:=by rw[hZ]; unfold uz; rw[Bi om]
   refine ap<|G15<|aa λG23=>wlm Y O λa Y=>au Y U call129 O (kJ (n:=(((z+(s.getD (p+i) 0).toNat%128*2 ^ (7*i)) / 2:Nat):Int)) (t:=pt) (e:=pe) (by rw[huz]; exact hpt) om) λa w3 Y U=>nv Y<|AL O<|AK (aj O O)<|AK (aj O O)<|AM O<|AM O<|λa Y=>G23 ?_;refine ah λG24=>aa λG25=>nv (Y.p7 0 1 8 7 10 11 12 O)<|AL O<|AK (v_ne O O)<|AL O<|λa Y=>?_;rcases (Decidable.em (pe=0)).symm with hb7|hb7
   ·rw[AV hb7] at Y;refine nv Y<|AO<|AO<|AO<|AO<|AO<|AO<|AO<|AO<|AO<|AK (aq O O)<|λa Y=>G25 ?_;replace Y:=Y.p6 0 1 8 7 10 74 O;refine aC Y O ?_;refine aa λG26=>nv Y<|AM O<|AM O<|AM O<|λa Y=>G26<|ao<|am Y results153 (ae O (ae O (ae O ag))) ?_;refine⟨?_,U.ext⟩
    have hrn:rdI (s.drop p)=none:=by
     rw[hra]; refine Bc λhc=>?_;rcases hps with⟨h1,h2,h3⟩|⟨h1,h2⟩
     ·exact hb7 h1
     ·exact h2 hc.2
    unfold intV; rw[hrn]; rfl
   rw[AQ hb7] at Y;refine nv Y<|AN (ax O)<|AN (ax O)<|AN (ax O)<|AN (ax O)<|AN (ax O)<|AN (aK O O ⟨om,om⟩)<|AN (aK O O ⟨om,om⟩)<|AN ((eN (xs:=s) (l:=p) (h:=(p+i+1)) O O O underlying9 (.inr EL) (.inr D4) om DQ).as (v':=sv ((s.drop p).take ((p+i+1)- p))) O)<|AN (mB O O)<|AK (ak O O)<|λa Y=>G25 ?_;replace Y:=Y.p6 0 1 8 7 10 74 O;refine bV Y O (λhc8=>?_) (λhc8=>?_)
   ·rw[show (p+i+1)- p=i+1 from by omega] at hc8;refine aa λG27=>nv Y<|AM O<|AM O<|AM O<|λa Y=>G27<|ao<|am Y results153 (ae O (ae O (ae O ag))) ?_;refine⟨?_,U.ext⟩
    have hrn:rdI (s.drop p)=none:=by
     rw[hra]; refine Bc λhc=>?_;rcases hps with⟨h1,h2,h3⟩|⟨h1,h2⟩
     ·exact hc8 (h3.trans hc.1)
     ·exact h2 hc.2
    unfold intV; rw[hrn]; rfl
   rw[show (p+i+1)- p=i+1 from by omega] at hc8;refine ap<|G24<|aa λG28=>nv Y<|AL O<|AL O<|AL O<|AK (aK O O ⟨om,om⟩)<|AK (aK O O ⟨om,om⟩)<|AM O<|AM O<|AM O<|λa Y=>G28 ?_;replace Y:=Y.p7 0 1 8 7 4 5 6 O;refine ao<|am Y results153 (ae O (ae O (ae O ag))) ?_;refine⟨?_,U.ext⟩
   have hrs:rdI (s.drop p)=some (uz Z,s.drop (p+(i+1))):=by
    rw[hra]; refine Bi ?_; rcases hps with⟨h1,h2,h3⟩|⟨h1,h2⟩
    ·exact⟨h3.symm.trans hc8,h2⟩
    ·exact absurd hb7 h1
   unfold intV; rw[hrs]; simp only[retv,Bb]; rw[huz,show ((s.length- (s.length- (p+(i+1))):Nat):Int)=(p:Int)+(i:Int)+1 from by omega]
  have hrn:rdI (s.drop p)=none:=by
   have:=zb (l:=(s.drop p).take i) hl De;rwa [BS DB] at this
  refine aN<|G5<|aa λG29=>nv Y<|AM O<|AM O<|AM O<|λa Y=>G29<|ao<|am Y results153 (ae O (ae O (ae O ag))) ?_;refine⟨?_,U.ext⟩;unfold intV; rw[hrn]; rfl
 rw[AV hb1] at Y
 have hrn:rdI (s.drop p)=none:=by
  have h9:i=9:=by omega
  subst h9;have:=xj (l:=(s.drop p).take 9) (r:=(s.drop p).drop 9) hl (by rw[AX,Bb]; omega);rwa [BU] at this
 refine nv Y<|AO<|AO<|AO<|AO<|AO<|AO<|AK (ak O O)<|λa Y=>G8 ?_;replace Y:=Y.p5 0 1 7 8 30 O;refine aJ Y O ?_;refine aN<|G5<|aa λG30=>nv Y<|AM O<|AM O<|AM O<|λa Y=>G30<|ao<|am Y results153 (ae O (ae O (ae O ag))) ?_;refine⟨?_,U.ext⟩;unfold intV; rw[hrn]; rfl
theorem eV {r q:By} {n:Int} (h:rdI r=some (n,q)):q<:+r:=by
 obtain⟨_,rfl⟩:=eQ h; exact List.suffix_append _ _
theorem sn {r x q:By} (h:rdS r=some (x,q)):∃n r2,rdI r=some (n,r2)∧0≤n∧n≤65536∧n≤(r2.length:Int)∧x=r2.take n.toNat∧q=r2.drop n.toNat∧q.length=r2.length- n.toNat:=by
 unfold rdS at h;cases hq:rdI r with
 | none=>rw[hq] at h; cases h
 | some p=>
  obtain⟨n,t⟩:=p;rw[hq] at h;simp only at h;split at h
  ·rename_i hc;cases h;exact⟨n,t,O,hc.1,hc.2.1,hc.2.2,O,O,by rw[Bb]⟩
  ·cases h
theorem vZ {r:By} (h:rdS r=none):rdI r=none∨∃n r2,rdI r=some (n,r2)∧(n<0∨65536<n∨(r2.length:Int)<n):=by
 unfold rdS at h;cases hq:rdI r with
 | none=>exact .inl rfl
 | some p=>
  obtain⟨n,t⟩:=p;rw[hq] at h;simp only at h;split at h
  ·cases h
  ·rename_i hc;exact .inr ⟨n,t,O,by omega⟩
theorem tC {r x q:By} (h:rdS r=some (x,q)):q<:+r:=by
 obtain⟨n,r2,hi,_,_,_,_,rfl,_⟩:=sn h;exact (List.drop_suffix _ _).trans (eV hi)
theorem tE {s r2 q x:By} {n:Int} (hs:r2<:+s) (hx:x=r2.take n.toNat) (h0:0≤n) (hn:n≤(r2.length:Int)) (hq:q.length=r2.length- n.toNat):x=(s.drop (s.length- r2.length)).take (s.length- q.length- (s.length- r2.length)):=by
 have:=hs.length_le;rw[←List.suffix_iff_eq_drop.1 hs,hx];congr 1;omega
theorem pd (s:By) (w0:World) (hs:s.length≤65536):
  Ff 61 #[sv s] w0 (.tuple #[sv (putS s),jv 0]):=by
 have hpl:=bQ (s.length:Int);refine Cy func61 O ntmps61 (lb O) λa Y U=>aa λG1=>nv Y<|AM O<|AM O<|λa Y=>G1<|ah λG2=>aa λG3=>nv Y<|AL O<|AK (aZ O O (runUnderlying9 _))<|AK ((v_gt O O).asb (b':=false) DA)<|λa Y=>G3<|aJ Y O ?_;refine ap<|G2<|aa λG4=>nv Y<|AL O<|AK (aZ O O (runUnderlying9 _))<|λa Y=>au Y U call60 O (f8 (s.length:Int) _ CW) λa w1 Y U=>nv Y<|AL O<|AK (aj O O)<|AK (aj O O)<|AM O<|AM O<|λa Y=>G4 ?_;refine aa λG5=>nv (Y.p4 0 2 3 4 O)<|AL O<|AL O<|AK (dJ O O Dm)<|AM O<|AM O<|λa Y=>G5<|ao<|am Y results61 (ae O (ae O ag)) ?_;exact⟨by rfl,U.ext⟩
theorem lg {s r r2:By} {n z:Int} {w0:World} (hz:z=((s.length- r.length:Nat):Int)) (hsf:r<:+s) (hsl:s.length≤1000000) (hq:rdI r=some (n,r2)):
  Ff 63 #[sv s,jv z] w0 (.tuple #[jv n,jv ((s.length- r2.length:Nat):Int),jv 0]):=by
 subst hz;have:=jN s (s.length- r.length) w0 om hsl;unfold intV at this;rw[←List.suffix_iff_eq_drop.1 hsf,hq] at this;exact this
theorem mD {s r:By} {z:Int} {w0:World} (hz:z=((s.length- r.length:Nat):Int)) (hsf:r<:+s) (hsl:s.length≤1000000) (hq:rdI r=none):
  Ff 63 #[sv s,jv z] w0 (.tuple #[jv 0,jv 0,jv 10]):=by
 subst hz;have:=jN s (s.length- r.length) w0 om hsl;unfold intV at this;rw[←List.suffix_iff_eq_drop.1 hsf,hq] at this;exact this
theorem vC (s r x q:By) (z:Int) (w0:World) (hz:z=((s.length- r.length:Nat):Int)) (hsf:r<:+s) (hsl:s.length≤1000000) (hq:rdS r=some (x,q)):
  Ff 65 #[sv s,jv z] w0 (.tuple #[sv x,jv ((s.length- q.length:Nat):Int),jv 0]):=by
 obtain⟨n,r2,hi,h0,h6,hl,hx, -,hql⟩:=sn hq;have hsu:=hsf.length_le;have hsf2:=(eV hi).trans hsf;have hsu2:=hsf2.length_le;refine Cx func65 O ntmps65 (lb O) λa Y U=>aa λG1=>nv Y<|AM O<|AM O<|AM O<|λa Y=>G1<|aa λG2=>nv Y<|AL O<|AL O<|λa Y=>au Y U call63 O (lg hz hsf hsl hi) λa w1 Y U=>nv Y<|AL O<|AK (aj O O)<|AK (aj O O)<|AK (aj O O)<|AM O<|AM O<|AM O<|λa Y=>G2 ?_;refine ah λG3=>aa λG4=>nv (Y.p7 0 4 5 6 7 8 9 O)<|AL O<|AK ((v_ne O O).asb (b':=false) O)<|λa Y=>G4<|aJ Y O ?_;refine ap<|G3<|ah λG5=>aa λG6=>nv Y<|AL O<|AK ((v_lt O O).asb (b':=false) DA)<|AL O<|AN (ax O)<|AN ((v_gt O O).asb (b':=false) DA)<|AK (ak O O)<|AL O<|AN (ax O)<|AN (ax O)<|AN (aZ O O (runUnderlying9 _))<|AN (ax O)<|AN (bF O O ⟨om,om⟩)<|AN ((v_gt O O).asb (b':=false) DA)<|AK (ak O O)<|λa Y=>G6 ?_;replace Y:=Y.p7 0 4 5 6 7 8 33 O;refine aJ Y O ?_;refine ap<|G5<|aa λG7=>nv Y<|AL O<|AL O<|AL O<|AL O<|AK ((aK O O ⟨om,om⟩).asi (m':=((s.length- q.length:Nat):Int)) om)<|AK ((gb (xs:=s) (l:=s.length- r2.length) (h:=s.length- q.length) O O O underlying9 (.inr ⟨.i64,O⟩) (.inr ⟨.i64,O⟩) om om).as (v':=sv x) (by rw[←tE hsf2 hx h0 hl hql]))<|AL O<|AL O<|AK ((aK O O ⟨om,om⟩).asi (m':=((s.length- q.length:Nat):Int)) om)<|AM O<|AM O<|AM O<|λa Y=>G7 ?_;replace Y:=Y.p3 4 5 6 O;refine ao<|am Y results65 (ae O (ae O (ae O ag))) ?_;exact⟨by rfl,U.ext⟩
theorem qJ (s r r2:By) (n z:Int) (w0:World) (hz:z=((s.length- r.length:Nat):Int)) (hsf:r<:+s) (hsl:s.length≤1000000) (hi:rdI r=some (n,r2)) (hb:n<0∨65536<n∨(r2.length:Int)<n):
  Ff 65 #[sv s,jv z] w0 (.tuple #[sv ([]:By),jv 0,jv 10]):=by
 have hsu:=hsf.length_le;have hsf2:=(eV hi).trans hsf;have hsu2:=hsf2.length_le;refine Cx func65 O ntmps65 (lb O) λa Y U=>aa λG1=>nv Y<|AM O<|AM O<|AM O<|λa Y=>G1<|aa λG2=>nv Y<|AL O<|AL O<|λa Y=>au Y U call63 O (lg hz hsf hsl hi) λa w1 Y U=>nv Y<|AL O<|AK (aj O O)<|AK (aj O O)<|AK (aj O O)<|AM O<|AM O<|AM O<|λa Y=>G2 ?_;refine ah λG3=>aa λG4=>nv (Y.p7 0 4 5 6 7 8 9 O)<|AL O<|AK ((v_ne O O).asb (b':=false) O)<|λa Y=>G4<|aJ Y O ?_;refine ap<|G3<|ah λG5=>aa λG6=>nv Y<|AL O<|AK (v_lt O O)<|AL O<|λa Y=>?_;rcases Decidable.em (n<0) with hb1|hb1
 ·rw[AQ hb1] at Y;refine nv Y<|AO<|AO<|AK (aq O O)<|AL O<|AO<|AO<|AO<|AO<|AO<|AO<|AK (aq O O)<|λa Y=>G6 ?_;replace Y:=Y.p7 0 4 5 6 7 8 33 O;refine aC Y O ?_;refine aa λG7=>nv Y<|AM O<|AM O<|AM O<|λa Y=>G7<|ao<|am Y results65 (ae O (ae O (ae O ag))) ?_;exact⟨by rfl,U.ext⟩
 rw[AV hb1] at Y;refine nv Y<|AN (ax O)<|AN (v_gt O O)<|AK (ak O O)<|AL O<|λa Y=>?_;rcases Decidable.em (65536<n) with hb2|hb2
 ·rw[AQ hb2] at Y;refine nv Y<|AO<|AO<|AO<|AO<|AO<|AO<|AK (aq O O)<|λa Y=>G6 ?_;replace Y:=Y.p7 0 4 5 6 7 8 33 O;refine aC Y O ?_;refine aa λG8=>nv Y<|AM O<|AM O<|AM O<|λa Y=>G8<|ao<|am Y results65 (ae O (ae O (ae O ag))) ?_;exact⟨by rfl,U.ext⟩
 rw[AV hb2] at Y;refine nv Y<|AN (ax O)<|AN (ax O)<|AN (aZ O O (runUnderlying9 _))<|AN (ax O)<|AN (bF O O ⟨om,om⟩)<|AN (v_gt O O)<|AK (ak O O)<|λa Y=>G6 ?_;replace Y:=Y.p7 0 4 5 6 7 8 33 O;refine ay Y O (λhc3=>?_) (λhc3=>?_)
 ·refine aa λG9=>nv Y<|AM O<|AM O<|AM O<|λa Y=>G9<|ao<|am Y results65 (ae O (ae O (ae O ag))) ?_;exact⟨by rfl,U.ext⟩
 exfalso; omega
theorem qw (s r:By) (z:Int) (w0:World) (hz:z=((s.length- r.length:Nat):Int)) (hsf:r<:+s) (hsl:s.length≤1000000) (hi:rdI r=none):
  Ff 65 #[sv s,jv z] w0 (.tuple #[sv ([]:By),jv 0,jv 10]):=by
 refine Cx func65 O ntmps65 (lb O) λa Y U=>aa λG1=>nv Y<|AM O<|AM O<|AM O<|λa Y=>G1<|aa λG2=>nv Y<|AL O<|AL O<|λa Y=>au Y U call63 O (mD hz hsf hsl hi) λa w1 Y U=>nv Y<|AL O<|AK (aj O O)<|AK (aj O O)<|AK (aj O O)<|AM O<|AM O<|AM O<|λa Y=>G2 ?_;refine ah λG3=>aa λG4=>nv (Y.p7 0 4 5 6 7 8 9 O)<|AL O<|AK ((v_ne O O).asb (b':=true) O)<|λa Y=>G4<|aC Y O ?_;refine aa λG5=>nv Y<|AL O<|AM O<|AM O<|AM O<|λa Y=>G5<|ao<|am Y results65 (ae O (ae O (ae O ag))) ?_;exact⟨by rfl,U.ext⟩
theorem tr {s r:By} {z:Int} {w0:World} (hz:z=((s.length- r.length:Nat):Int)) (hsf:r<:+s) (hsl:s.length≤1000000) (hq:rdS r=none):
  Ff 65 #[sv s,jv z] w0 (.tuple #[sv ([]:By),jv 0,jv 10]):=by
 rcases vZ hq with hi|⟨n,r2,hi,hb⟩
 ·exact qw s r z w0 hz hsf hsl hi
 ·exact qJ s r r2 n z w0 hz hsf hsl hi hb
theorem nb (s:By) (w0:World) (hs:s.length≤65536):
  Ff 130 #[sv s] w0 (.tuple #[sv (putS s),jv 0]):=by
 have hpl:=bQ (s.length:Int);refine Cy func130 O ntmps130 (lb O) λa Y U=>aa λG1=>nv Y<|AM O<|AM O<|λa Y=>G1<|ah λG2=>aa λG3=>nv Y<|AL O<|AK (aZ O O (runUnderlying9 _))<|AK ((v_gt O O).asb (b':=false) DA)<|λa Y=>G3<|aJ Y O ?_;refine ap<|G2<|aa λG4=>nv Y<|AL O<|AK (aZ O O (runUnderlying9 _))<|λa Y=>au Y U call129 O (dL (s.length:Int) _ CW) λa w1 Y U=>nv Y<|AL O<|AK (aj O O)<|AK (aj O O)<|AM O<|AM O<|λa Y=>G4 ?_;refine aa λG5=>nv (Y.p4 0 2 3 4 O)<|AL O<|AL O<|AK (dJ O O Dm)<|AM O<|AM O<|λa Y=>G5<|ao<|am Y results130 (ae O (ae O ag)) ?_;exact⟨by rfl,U.ext⟩
theorem jK {s r r2:By} {n z:Int} {w0:World} (hz:z=((s.length- r.length:Nat):Int)) (hsf:r<:+s) (hsl:s.length≤1000000) (hq:rdI r=some (n,r2)):
  Ff 153 #[sv s,jv z] w0 (.tuple #[jv n,jv ((s.length- r2.length:Nat):Int),jv 0]):=by
 subst hz;have:=kb s (s.length- r.length) w0 om hsl;unfold intV at this;rw[←List.suffix_iff_eq_drop.1 hsf,hq] at this;exact this
theorem kt {s r:By} {z:Int} {w0:World} (hz:z=((s.length- r.length:Nat):Int)) (hsf:r<:+s) (hsl:s.length≤1000000) (hq:rdI r=none):
  Ff 153 #[sv s,jv z] w0 (.tuple #[jv 0,jv 0,jv 10]):=by
 subst hz;have:=kb s (s.length- r.length) w0 om hsl;unfold intV at this;rw[←List.suffix_iff_eq_drop.1 hsf,hq] at this;exact this
theorem sZ (s r x q:By) (z:Int) (w0:World) (hz:z=((s.length- r.length:Nat):Int)) (hsf:r<:+s) (hsl:s.length≤1000000) (hq:rdS r=some (x,q)):
  Ff 165 #[sv s,jv z] w0 (.tuple #[sv x,jv ((s.length- q.length:Nat):Int),jv 0]):=by
 obtain⟨n,r2,hi,h0,h6,hl,hx, -,hql⟩:=sn hq;have hsu:=hsf.length_le;have hsf2:=(eV hi).trans hsf;have hsu2:=hsf2.length_le;refine Cx func165 O ntmps165 (lb O) λa Y U=>aa λG1=>nv Y<|AM O<|AM O<|AM O<|λa Y=>G1<|aa λG2=>nv Y<|AL O<|AL O<|λa Y=>au Y U call153 O (jK hz hsf hsl hi) λa w1 Y U=>nv Y<|AL O<|AK (aj O O)<|AK (aj O O)<|AK (aj O O)<|AM O<|AM O<|AM O<|λa Y=>G2 ?_;refine ah λG3=>aa λG4=>nv (Y.p7 0 4 5 6 7 8 9 O)<|AL O<|AK ((v_ne O O).asb (b':=false) O)<|λa Y=>G4<|aJ Y O ?_;refine ap<|G3<|ah λG5=>aa λG6=>nv Y<|AL O<|AK ((v_lt O O).asb (b':=false) DA)<|AL O<|AN (ax O)<|AN ((v_gt O O).asb (b':=false) DA)<|AK (ak O O)<|AL O<|AN (ax O)<|AN (ax O)<|AN (aZ O O (runUnderlying9 _))<|AN (ax O)<|AN (bF O O ⟨om,om⟩)<|AN ((v_gt O O).asb (b':=false) DA)<|AK (ak O O)<|λa Y=>G6 ?_;replace Y:=Y.p7 0 4 5 6 7 8 33 O;refine aJ Y O ?_;refine ap<|G5<|aa λG7=>nv Y<|AL O<|AL O<|AL O<|AL O<|AK ((aK O O ⟨om,om⟩).asi (m':=((s.length- q.length:Nat):Int)) om)<|AK ((gb (xs:=s) (l:=s.length- r2.length) (h:=s.length- q.length) O O O underlying9 (.inr ⟨.i64,O⟩) (.inr ⟨.i64,O⟩) om om).as (v':=sv x) (by rw[←tE hsf2 hx h0 hl hql]))<|AL O<|AL O<|AK ((aK O O ⟨om,om⟩).asi (m':=((s.length- q.length:Nat):Int)) om)<|AM O<|AM O<|AM O<|λa Y=>G7 ?_;replace Y:=Y.p3 4 5 6 O;refine ao<|am Y results165 (ae O (ae O (ae O ag))) ?_;exact⟨by rfl,U.ext⟩
theorem pP (s r r2:By) (n z:Int) (w0:World) (hz:z=((s.length- r.length:Nat):Int)) (hsf:r<:+s) (hsl:s.length≤1000000) (hi:rdI r=some (n,r2)) (hb:n<0∨65536<n∨(r2.length:Int)<n):
  Ff 165 #[sv s,jv z] w0 (.tuple #[sv ([]:By),jv 0,jv 10]):=by
 have hsu:=hsf.length_le;have hsf2:=(eV hi).trans hsf;have hsu2:=hsf2.length_le;refine Cx func165 O ntmps165 (lb O) λa Y U=>aa λG1=>nv Y<|AM O<|AM O<|AM O<|λa Y=>G1<|aa λG2=>nv Y<|AL O<|AL O<|λa Y=>au Y U call153 O (jK hz hsf hsl hi) λa w1 Y U=>nv Y<|AL O<|AK (aj O O)<|AK (aj O O)<|AK (aj O O)<|AM O<|AM O<|AM O<|λa Y=>G2 ?_;refine ah λG3=>aa λG4=>nv (Y.p7 0 4 5 6 7 8 9 O)<|AL O<|AK ((v_ne O O).asb (b':=false) O)<|λa Y=>G4<|aJ Y O ?_;refine ap<|G3<|ah λG5=>aa λG6=>nv Y<|AL O<|AK (v_lt O O)<|AL O<|λa Y=>?_;rcases Decidable.em (n<0) with hb1|hb1
 ·rw[AQ hb1] at Y;refine nv Y<|AO<|AO<|AK (aq O O)<|AL O<|AO<|AO<|AO<|AO<|AO<|AO<|AK (aq O O)<|λa Y=>G6 ?_;replace Y:=Y.p7 0 4 5 6 7 8 33 O;refine aC Y O ?_;refine aa λG7=>nv Y<|AM O<|AM O<|AM O<|λa Y=>G7<|ao<|am Y results165 (ae O (ae O (ae O ag))) ?_;exact⟨by rfl,U.ext⟩
 rw[AV hb1] at Y;refine nv Y<|AN (ax O)<|AN (v_gt O O)<|AK (ak O O)<|AL O<|λa Y=>?_;rcases Decidable.em (65536<n) with hb2|hb2
 ·rw[AQ hb2] at Y;refine nv Y<|AO<|AO<|AO<|AO<|AO<|AO<|AK (aq O O)<|λa Y=>G6 ?_;replace Y:=Y.p7 0 4 5 6 7 8 33 O;refine aC Y O ?_;refine aa λG8=>nv Y<|AM O<|AM O<|AM O<|λa Y=>G8<|ao<|am Y results165 (ae O (ae O (ae O ag))) ?_;exact⟨by rfl,U.ext⟩
 rw[AV hb2] at Y;refine nv Y<|AN (ax O)<|AN (ax O)<|AN (aZ O O (runUnderlying9 _))<|AN (ax O)<|AN (bF O O ⟨om,om⟩)<|AN (v_gt O O)<|AK (ak O O)<|λa Y=>G6 ?_;replace Y:=Y.p7 0 4 5 6 7 8 33 O;refine ay Y O (λhc3=>?_) (λhc3=>?_)
 ·refine aa λG9=>nv Y<|AM O<|AM O<|AM O<|λa Y=>G9<|ao<|am Y results165 (ae O (ae O (ae O ag))) ?_;exact⟨by rfl,U.ext⟩
 exfalso; omega
theorem pK (s r:By) (z:Int) (w0:World) (hz:z=((s.length- r.length:Nat):Int)) (hsf:r<:+s) (hsl:s.length≤1000000) (hi:rdI r=none):
  Ff 165 #[sv s,jv z] w0 (.tuple #[sv ([]:By),jv 0,jv 10]):=by
 refine Cx func165 O ntmps165 (lb O) λa Y U=>aa λG1=>nv Y<|AM O<|AM O<|AM O<|λa Y=>G1<|aa λG2=>nv Y<|AL O<|AL O<|λa Y=>au Y U call153 O (kt hz hsf hsl hi) λa w1 Y U=>nv Y<|AL O<|AK (aj O O)<|AK (aj O O)<|AK (aj O O)<|AM O<|AM O<|AM O<|λa Y=>G2 ?_;refine ah λG3=>aa λG4=>nv (Y.p7 0 4 5 6 7 8 9 O)<|AL O<|AK ((v_ne O O).asb (b':=true) O)<|λa Y=>G4<|aC Y O ?_;refine aa λG5=>nv Y<|AL O<|AM O<|AM O<|AM O<|λa Y=>G5<|ao<|am Y results165 (ae O (ae O (ae O ag))) ?_;exact⟨by rfl,U.ext⟩
theorem ru {s r:By} {z:Int} {w0:World} (hz:z=((s.length- r.length:Nat):Int)) (hsf:r<:+s) (hsl:s.length≤1000000) (hq:rdS r=none):
  Ff 165 #[sv s,jv z] w0 (.tuple #[sv ([]:By),jv 0,jv 10]):=by
 rcases vZ hq with hi|⟨n,r2,hi,hb⟩
 ·exact pK s r z w0 hz hsf hsl hi
 ·exact pP s r r2 n z w0 hz hsf hsl hi hb
section
variable {ks:List By} {x:Wsh} {ps:List Pxy} {n t:Int}
theorem oG:validH ks x ps n t=true↔(¬formB ks x ps∧badIdx ps 0=none∧inB t x.sf (x.st- 1)=true∧inB n x.rf (x.rt- 1)=true∧bN x.signer x.holder ps 0=none∧bt x none ps 0=none∧bU ks x ps 0=none):=by
 unfold validH;rw[AZ];constructor
 ·intro h
  by_cases h0:formB ks x ps
  ·rw[ef h0] at h; cases h
  ·cases hb:badIdx ps 0 with
   | some i=>rw[uj h0 (by rw[lj,hb]; exact Int.natCast_nonneg i)] at h; cases h
   | none=>
    cases ht:inB t x.sf (x.st- 1) with
    | false=>rw[gL h0 hb ht] at h; cases h
    | true=>
     cases hn:inB n x.rf (x.rt- 1) with
     | false=>rw[j0 h0 hb ht hn] at h; cases h
     | true=>
      have hp:whyP ks x ps n t:=⟨h0,hb,ht,hn⟩;cases hc:bN x.signer x.holder ps 0 with
      | some i=>rw[ij hp hc] at h; cases h
      | none=>
       cases hs:bt x none ps 0 with
       | some i=>rw[ik hp hc hs] at h; cases h
       | none=>
        cases hl:bU ks x ps 0 with
        | some i=>rw[eq hp hc hs hl] at h; cases h
        | none=>exact⟨h0,rfl,rfl,rfl,rfl,rfl,rfl⟩
 ·rintro⟨h0,hb,ht,hn,hc,hs,hl⟩;rw[ju ⟨h0,hb,ht,hn⟩ hc hs hl]
theorem pA {n0 t0:Int} (h:validH ks x ps n0 t0=true) (n t:Int):whyH ks x ps n t=if inB t x.sf (x.st- 1)=false then (2, -1) else if inB n x.rf (x.rt- 1)=false then (3, -1) else (0, -1):=by
 obtain⟨h0,hb,_,_,hc,hs,hl⟩:=oG.1 h
 by_cases ht:inB t x.sf (x.st- 1)=false
 ·rw[Bi ht,gL h0 hb ht]
 ·rw[Bc ht]
  by_cases hn:inB n x.rf (x.rt- 1)=false
  ·rw[Bi hn,j0 h0 hb (by simpa using ht) hn]
  ·rw[Bc hn,ju ⟨h0,hb,by simpa using ht,by simpa using hn⟩ hc hs hl]
theorem mg {n0 t0:Int} (h:validH ks x ps n0 t0=true) (n t:Int):validH ks x ps n t=(inB t x.sf (x.st- 1)&&inB n x.rf (x.rt- 1)):=by
 unfold validH;rw[pA h];cases inB t x.sf (x.st- 1)<;>cases inB n x.rf (x.rt- 1)<;>rfl
theorem mI:∀{l:List Pxy} {k:Nat},bU ks x l k=none→(∀p∈l,∃key,keyAt ks p.frm=some key∧p.sig=sealH key p.content)∧∃key,keyAt ks x.signer=some key∧x.sig=sealH key x.content
 | [],k,h=>by
  rw[bU] at h;split at h
  ·rename_i hc;cases hq:keyAt ks x.signer with
   | none=>rw[hq] at hc; cases hc
   | some key=>rw[hq] at hc; exact⟨by simp,key,rfl,by simpa using hc⟩
  ·cases h
 | p::l,k,h=>by
  rw[bU] at h;split at h
  ·rename_i hc;obtain⟨h1,h2⟩:=mI h;refine⟨λq hq=>?_,h2⟩;rcases A0.1 hq with rfl|hq
   ·cases he:keyAt ks q.frm with
    | none=>rw[he] at hc; cases hc
    | some key=>rw[he] at hc; exact⟨key,rfl,by simpa using hc⟩
   ·exact h1 q hq
  ·cases h
theorem nq {h:Int} {key:By} (hk:keyAt keysH h=some key):0≤h∧h<10∧key=keyH h:=by
 unfold keyAt at hk;split at hk
 ·cases hk
 ·rename_i h0;have hl:=(Bo.1 hk).1;rw[km] at hl;have h1:h<10:=by omega
  have:=gB (h:=h) om h1;unfold keyAt at this;rw[Bc h0,hk] at this;exact⟨by omega,h1,BZ this⟩
end
def Mk (x:Wsh) (ps:List Pxy):Prop:=validH keysH x ps x.rf x.sf=true
section
variable {x:Wsh} {ps:List Pxy}
theorem Mk.pieces (h:Mk x ps):¬formB keysH x ps∧badIdx ps 0=none∧bN x.signer x.holder ps 0=none∧bt x none ps 0=none∧bU keysH x ps 0=none:=by
 obtain⟨h0,hb,_,_,hc,hs,hl⟩:=oG.1 h;exact⟨h0,hb,hc,hs,hl⟩
theorem Mk.ok (h:Mk x ps):x.ok=true:=by
 have:=h.pieces.1;cases hx:x.ok with
 | true=>rfl
 | false=>exact absurd (.inr (.inr (.inl hx))) this
theorem Mk.len (h:Mk x ps):ps.length≤4:=Nat.le_of_not_lt λhl=>h.pieces.1 (.inr (.inr (.inr hl)))
theorem Mk.formed (h:Mk x ps):cf x ps=true:=by
 unfold cf;rw[h.ok,h.pieces.2.1,AQ h.len]; rfl
theorem Mk.sgn (h:Mk x ps):0≤x.signer∧x.signer<10∧x.sig=sealH (keyH x.signer) x.content:=by
 obtain⟨key,h1,h2⟩:=(mI h.pieces.2.2.2.2).2;obtain⟨h3,h4,rfl⟩:=nq h1;exact⟨h3,h4,h2⟩
theorem Mk.each (h:Mk x ps) {p:Pxy} (hp:p∈ps):0≤p.frm∧p.frm<10∧p.sig=sealH (keyH p.frm) p.content∧p.ok=true:=by
 obtain⟨key,h1,h2⟩:=(mI h.pieces.2.2.2.2).1 p hp;obtain⟨h3,h4,rfl⟩:=nq h1;exact⟨h3,h4,h2,dr h.pieces.2.1 p hp⟩
theorem Mk.same (h:Mk x ps):x.sealed (keyH x.signer)=x:=by
 have:=h.sgn.2.2;unfold Wsh.sealed;rw[←this]
theorem Mk.xsig (h:Mk x ps):x.sig.length=32:=by rw[h.sgn.2.2]; exact hP _ _
theorem Mk.psig (h:Mk x ps):∀p∈ps,p.sig.length=32:=λp hp=>by rw[(h.each hp).2.2.1]; exact hP _ _
theorem Mk.enc (h:Mk x ps):∃s,cz x ps=some s:=⟨_,cW.2 ⟨h.formed,h.xsig,h.psig,rfl⟩⟩
theorem Mk.valid (h:Mk x ps) (n t:Int):validH keysH x ps n t=(inB t x.sf (x.st- 1)&&inB n x.rf (x.rt- 1)):=mg h n t
theorem Mk.here (h:Mk x ps):validH keysH x ps x.rf x.sf=true:=h
end
theorem zL (holder r0 r1 s0 s1 carrier serial:Int) (l:List Cin):Mk (madeW holder r0 r1 s0 s1 carrier serial l) (madeL holder r0 r1 s0 s1 l):=by
 have hb:=Wsh.ok_bnd (qx holder r0 r1 s0 s1 carrier serial l);unfold Mk validH;rw[wU,Bc,Bc]
 ·rfl
 ·simp[inB]; omega
 ·simp[inB]; omega
theorem AD {holder r0 r1 s0 s1 carrier serial:Int} {cv:Value} {ys:List Cin} {w0:World} {x:Wsh} {ps:List Pxy} (hx:madeW holder r0 r1 s0 s1 carrier serial ys=x) (hps:madeL holder r0 r1 s0 s1 ys=ps) (hcv:SlAt w0 cv 5 (ys.map Cin.cells)) (hys:∀y∈ys,y.wt) (h0:i64 holder) (h1:i64 r0) (h2:i64 r1) (h3:i64 s0) (h4:i64 s1) (h5:i64 carrier) (h6:i64 serial):
  Ret Tryz.prog 32 #[.agg #[jv holder,jv r0,jv r1,jv s0,jv s1,jv carrier,jv serial,cv]] w0 (MemR w0 (λv:Value=>.tuple #[(EW x),v]) (λv=>[own v 144 7 (ps.map Pxy.cells)]) (λ_=>True)):=by
 subst hx; subst hps;exact yQ holder r0 r1 s0 s1 carrier serial cv ys w0 hcv hys h0 h1 h2 h3 h4 h5 h6
end Go.Proofs.YtliklcmddmpdfaaGreatDoor
